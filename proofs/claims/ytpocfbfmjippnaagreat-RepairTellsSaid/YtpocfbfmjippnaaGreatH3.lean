/- Parts of the proof of the law; no condition. -/
import Derived.Test.YtpocfbfmjippnaaGreatH2
set_option linter.all false
section
namespace Go.Proofs.YtpocfbfmjippnaaGreat
open Go.RowKit
namespace T
section
variable {P:Program} {B:Nat} {M:Nat→Prop} {hp lh:Hp} {ψ:Nat→Value} {w w':World} {fr:Nat} {C:List Ent} {o:Oper} {a:Act}
theorem zero_rd {M':Nat→Prop}:∀{t:Ty} {cs r:List Value},zeroOk t cs=some r→∃c,cs=c++r∧Rd P t w M' t.dflt c
 | .bool,cs,r,h=>by
  cases cs with
  |nil=>simp[zeroOk] at h
  |cons v vs=>
   cases v<;>simp[zeroOk] at h;obtain ⟨rfl,rfl⟩:=h;exact ⟨[_],rfl,rfl⟩
 | .int k,cs,r,h=>by
  cases cs with
  |nil=>simp[zeroOk] at h
  |cons v vs=>
   cases v<;>simp[zeroOk] at h;obtain ⟨⟨rfl,rfl⟩,rfl⟩:=h;refine ⟨[_],rfl,rfl,?_⟩;show IntKind.min _≤0∧0≤IntKind.max _;rename_i k;cases k<;>decide
 | .str,cs,r,h=>by
  cases cs with
  |nil=>simp[zeroOk] at h
  |cons v vs=>
   cases v<;>simp[zeroOk] at h;obtain ⟨rfl,rfl⟩:=h;exact ⟨[_],rfl,rfl,by simp[Ty.dflt,maxLen]⟩
 | .sl t,cs,r,h=>by
  cases cs with
  |nil=>simp[zeroOk] at h
  |cons v vs=>
   cases v<;>(try (simp[zeroOk] at h;done))
   rename_i A n c;cases A<;>cases n<;>cases c<;>simp[zeroOk] at h;subst h;exact ⟨[_],rfl,none,0,0,rfl,rfl,Nat.le_refl _,Nat.zero_le _,.inl rfl⟩
 | .st t,cs,r,h=>zero_rd (t:=t) h
 | .nil,cs,r,h=>by simp[zeroOk] at h;subst h;exact ⟨[],rfl,rfl⟩
 | .cons x y,cs,r,h=>by
  unfold zeroOk at h;split at h
  ·rename_i r' h';obtain ⟨c1,rfl,q1⟩:=zero_rd (t:=x) h';obtain ⟨c2,rfl,q2⟩:=zero_rd (t:=y) h;exact ⟨c1++c2,by simp,c1,c2,rfl,q1,q2⟩
  ·cases h
 | .ptr _,cs,r,h=>by cases cs<;>simp[zeroOk] at h
 | .fn _ _,cs,r,h=>by cases cs<;>simp[zeroOk] at h
 | .fn2 _ _ _,cs,r,h=>by cases cs<;>simp[zeroOk] at h
 | .mp _ _,cs,r,h=>by cases cs<;>simp[zeroOk] at h
theorem zero_avs {M':Nat→Prop}:∀{t:Ty} {cs r:List Value},zeroOk t cs=some r→∃c,cs=c++r∧AVRs P hp ψ w M' (zeroAV t) c
 | .sl t,cs,r,h=>by
  cases cs with
  |nil=>simp[zeroOk] at h
  |cons v vs=>
   cases v<;>(try (simp[zeroOk] at h;done))
   rename_i A n c;cases A<;>cases n<;>cases c<;>simp[zeroOk] at h;subst h;exact ⟨[_],rfl,_,_,rfl,rfl,rfl⟩
 | .st t,cs,r,h=>zero_avs (t:=t) h
 | .nil,cs,r,h=>by simp[zeroOk] at h;subst h;exact ⟨[],rfl,rfl⟩
 | .cons x y,cs,r,h=>by
  unfold zeroOk at h;split at h
  ·rename_i r' h';obtain ⟨c1,rfl,q1⟩:=zero_avs (t:=x) h';obtain ⟨c2,rfl,q2⟩:=zero_avs (t:=y) h;exact ⟨c1++c2,by simp,q1.append q2⟩
  ·cases h
 | .bool,cs,r,h=>by obtain ⟨c,e,q⟩:=zero_rd (P:=P) (w:=w) (M':=M') h;exact ⟨c,e,scatter_r q⟩
 | .int k,cs,r,h=>by obtain ⟨c,e,q⟩:=zero_rd (P:=P) (w:=w) (M':=M') h;exact ⟨c,e,scatter_r q⟩
 | .str,cs,r,h=>by obtain ⟨c,e,q⟩:=zero_rd (P:=P) (w:=w) (M':=M') h;exact ⟨c,e,scatter_r q⟩
 | .ptr _,cs,r,h=>by cases cs<;>simp[zeroOk] at h
 | .fn _ _,cs,r,h=>by cases cs<;>simp[zeroOk] at h
 | .fn2 _ _ _,cs,r,h=>by cases cs<;>simp[zeroOk] at h
 | .mp _ _,cs,r,h=>by cases cs<;>simp[zeroOk] at h
theorem zeroIs_avs {T:TypeId} {t:Ty} (h:zeroIs P T t=true):∃i z,P.info? T=some i∧i.zero=some z∧(∀w M',Rd P t w M' t.dflt z.cells.toList)∧∀hp ψ w M',AVRs P hp ψ w M' (zeroAV t) z.cells.toList:=by
 unfold zeroIs at h;split at h
 ·rename_i i hi;split at h
  ·rename_i z hz;split at h
   ·rename_i h0;refine ⟨i,z,hi,hz,fun w M'=>?_,fun hp ψ w M'=>?_⟩
    ·obtain ⟨c,e,q⟩:=zero_rd (P:=P) (w:=w) (M':=M') h0;rw[e,List.append_nil];exact q
    ·obtain ⟨c,e,q⟩:=zero_avs (P:=P) (hp:=hp) (ψ:=ψ) (w:=w) (M':=M') h0;rw[e,List.append_nil];exact q
   ·cases h
  ·cases h
 ·cases h
theorem zeroIs_spec {T:TypeId} {t:Ty} (h:zeroIs P T t=true):∃i z,P.info? T=some i∧i.zero=some z∧∀w M',Rd P t w M' t.dflt z.cells.toList:=by
 unfold zeroIs at h;split at h
 ·rename_i i hi;split at h
  ·rename_i z hz;split at h
   ·rename_i h0;refine ⟨i,z,hi,hz,fun w M'=>?_⟩;obtain ⟨c,e,q⟩:=zero_rd (P:=P) (w:=w) (M':=M') h0;rw[e,List.append_nil];exact q
   ·cases h
  ·cases h
 ·cases h
theorem below_alloc (o:Obj):Below w.heap.size w (w.alloc o):=(Below.refl _ _).alloc (Nat.le_refl _) o
theorem size_alloc (o:Obj):(w.alloc o).heap.size=w.heap.size+1:=by simp
theorem new_box {T:TypeId} {cs:List AV} {cells:Array Value} (c:Ctx P B M hp ψ w fr) (hf:fr∉AV.locsL cs) (h:AVRs P hp ψ w (Mu M hp ψ) cs cells.toList) (h1:∀u∈cells.toList,u.oneCell'=true)
  (hr:(execOp a.eval o).run P w= .ok (.value (.pointer (some ⟨w.heap.size,0,none⟩))) (w.alloc (.cells cells T))):Does P o a w (OpPost P B M hp ψ w fr ⟨.ptr fr 0,[],some (fr,.box T cs)⟩):=by
 refine does_run hr (c.fresh (u:=.pointer (some ⟨w.heap.size,0,none⟩)) (below_alloc _) ?_ ?_ ?_)
 ·intro b hb
  simp only[blk,Option.some.injEq] at hb;subst hb
  rw[size_alloc];omega
 ·intro hl
  refine ⟨w.heap.size,cells,by simp,c.hok.bz,heap_alloc_new w _,?_,h1⟩
  refine AVRs.later (fr:=fr) hl (fun l h=>upd'_other _ _ h) (fun l ob' hl h=>?_) hf h
  rw[putHp_other _ _ hl] at h
  exact ⟨ob',(kill_some h).2,like_refl _⟩
 ·intro _ ob _
  exact ⟨w.heap.size,by simp,rfl⟩
theorem scatter_locs (t:Ty):∀(d:t.den) (z:Nat),z∉AV.locsL (scatter t d):=fun d z=>by
 have:cellsOf (fun _=>none) (.val t d)=some (scatter t d):=rfl;exact cellsOf_locs this (by simp[AV.locs])
theorem zeroAV_locs:∀(t:Ty) (z:Nat),z∉AV.locsL (zeroAV t)
 | .st t,z=>zeroAV_locs t z
 | .nil,z=>by simp[zeroAV,AV.locsL]
 | .cons a b,z=>by
  have ha:=zeroAV_locs a z;have hb:=zeroAV_locs b z;have app:∀xs ys:List AV,z∉AV.locsL xs→z∉AV.locsL ys→z∉AV.locsL (xs++ys):=by
   intro xs ys h1 h2;induction xs with
   |nil=>exact h2
   |cons x r ih=>
    simp only[List.cons_append,AV.locsL,List.mem_append,not_or] at h1⊢;exact ⟨h1.1,ih h1.2⟩
  exact app _ _ ha hb
 | .sl _,z=>by simp[zeroAV,AV.locsL,AV.locs]
 | .bool,z=>scatter_locs .bool _ z
 | .int k,z=>scatter_locs (.int k) _ z
 | .str,z=>scatter_locs .str _ z
 | .ptr t,z=>scatter_locs (.ptr t) _ z
 | .fn a r,z=>scatter_locs (.fn a r) _ z
 | .fn2 a b r,z=>scatter_locs (.fn2 a b r) _ z
 | .mp k t,z=>scatter_locs (.mp k t) _ z
theorem alloc_ok {T:TypeId} {t:Ty} (ho:o.op= .alloc T) (hT:zeroIs P T t=true) (c:Ctx P B M hp ψ w fr):Does P o a w (OpPost P B M hp ψ w fr ⟨.ptr fr 0,[],some (fr,.box T (zeroAV t))⟩):=by
 obtain ⟨i,z,hi,hz,hrd,hav⟩:=zeroIs_avs hT;refine new_box c (zeroAV_locs t _) (hav hp ψ w _) (hrd w (Mu M hp ψ)).one ?_;unfold execOp;simp[ho,Instr.alloc,zeroValue,typeInfo,hi,hz,newVar,newRow]
theorem allocz_ok {T:TypeId} {m:Nat} (ho:o.op= .alloc T) (hT:zeroNil P T m=true) (c:Ctx P B M hp ψ w fr):Does P o a w (OpPost P B M hp ψ w fr ⟨.ptr fr 0,[],some (fr,.box T [.cst (nilOf m)])⟩):=by
 unfold zeroNil at hT;split at hT
 case h_2=>cases hT
 rename_i i hi;obtain ⟨hz,hc⟩:i.zero=some (nilOf m)∧(nilOf m).cells= #[nilOf m]:=by
  split at hT
  ·rename_i q1;exact ⟨q1,rfl⟩
  ·rename_i q1;exact ⟨q1,rfl⟩
  ·rename_i q1;exact ⟨q1,rfl⟩
  ·cases hT
 refine new_box (cs:=[.cst (nilOf m)]) (cells:=#[nilOf m]) c (by simp[AV.locsL,AV.locs]) ⟨_,_,rfl,rfl,rfl⟩ (fun u hu=>by simp at hu;subst hu;unfold nilOf;split<;>rfl) ?_;unfold execOp;simp[ho,Instr.alloc,zeroValue,typeInfo,hi,hz,hc,newVar,newRow]
theorem box_ok {T:TypeId} {X:Operand} {x:AV} {cs:List AV} (ho:o.op= .box T X) (hlh:∀l ob,lh l=some ob→hp l=some ob) (hX:AVR P hp ψ w (Mu M hp ψ) x (a.eval X)) (hf:fr∉x.locs) (h:cellsOf lh x=some cs) (c:Ctx P B M hp ψ w fr):
  Does P o a w (OpPost P B M hp ψ w fr ⟨.ptr fr 0,[],some (fr,.box T cs)⟩):=by
 obtain ⟨h1,h2⟩:=cellsOf_ok c.hok hlh h hX
 refine new_box c (cellsOf_locs h hf) h1 h2 ?_
 unfold execOp
 simp[ho,Instr.box,newVar,newRow]
theorem new_row {e:TypeId} {t:Ty} {xs:List t.den} {v:Value} {ks:List Nat} {cells:List Value} (c:Ctx P B M hp ψ w fr) (hb:Below w.heap.size w w') (hown:w'.ownsRow w.heap.size e t.size v xs.length cells)
  (hrow:Later w (Mu M hp ψ) w' (Mu M (putHp (kill hp ks) fr (.row e t xs)) (upd' ψ fr v))→RowsBy (fun x c=>Rd P t w' (Mu M (putHp (kill hp ks) fr (.row e t xs)) (upd' ψ fr v)) x c) xs cells):
  OpPost P B M hp ψ w fr ⟨.own fr,ks,some (fr,.row e t xs)⟩ v w':=by
 refine c.fresh (u:=v) hb (fun b hb=>ownsRow_blk hown hb) (fun hl=>⟨cells,?_,hrow hl⟩) (fun _ ob _=>by simp)
 rw[upd'_same]
 obtain ⟨h1,h2⟩:=hown
 refine ⟨h1,?_⟩
 rcases h2 with h2|⟨g,cap,cur,q1,q2,r⟩
 ·exact .inl h2
 ·exact .inr ⟨g,cap,cur,q1,Nat.le_trans c.hok.bz q2,r⟩
theorem nilrow_ok {e:TypeId} {t:Ty} {X:Operand} (ho:o.op= .move X∨o.op= .assign X) (hX:X= .const (.slice none 0 0)) (c:Ctx P B M hp ψ w fr):Does P o a w (OpPost P B M hp ψ w fr ⟨.own fr,[],some (fr,.row e t [])⟩):=by
 subst hX;refine does_run (v:=.slice none 0 0) (w':=w) ?_ (new_row (cells:=[]) c (Below.refl _ _) ⟨by simp,.inl ⟨rfl,rfl⟩⟩ fun _=>rfl);unfold execOp;rcases ho with ho|ho<;>(simp only[ho];rfl)
theorem made_rows (z:Array Value) (n:Nat):(madeCells z (n*z.size)).toList=(List.replicate n z.toList).flatten:=by
 unfold madeCells;induction n with
 |zero=>simp
 |succ n ih=>
  rw[Array.toList_map,Array.toList_range] at ih⊢;rw[Nat.succ_mul,Nat.add_comm (n*z.size),List.range_add,List.map_append,List.replicate_succ,List.flatten_cons,←ih,List.map_map];congr 1
  ·apply List.ext_getElem
   ·simp
   ·intro i h1 h2;simp only[List.length_map,List.length_range] at h1;simp[Nat.mod_eq_of_lt h1,h1]
  ·apply List.map_congr_left;intro i _;simp
theorem rows_rep {t:Ty} {M':Nat→Prop} {d:t.den} {c:List Value} (h:Rd P t w M' d c):∀n,RowsBy (fun x c=>Rd P t w M' x c) (List.replicate n d) (List.replicate n c).flatten
 |0=>rfl
 |n+1=>⟨c,(List.replicate n c).flatten,by simp[List.replicate_succ],h,rows_rep h n⟩
theorem mkslice_ok {T e:TypeId} {t:Ty} {bytes:Nat} {X Y:Operand} {k k':IntKind} {n m:Int} (ho:o.op= .makeSlice T X Y) (hT:elemOk P T e t=true) (hz:zeroIs P e t=true) (hb:(P.info? e).map (·.bytes)=some bytes) (hb0:bytes≠0)
  (hX:AVR P hp ψ w (Mu M hp ψ) (.val (.int k) n) (a.eval X)) (hY:AVR P hp ψ w (Mu M hp ψ) (.val (.int k') m) (a.eval Y)) (hp':0≤n∧m=n∧(bytes:Int)*n≤140737488355328) (c:Ctx P B M hp ψ w fr):
  Does P o a w (OpPost P B M hp ψ w fr ⟨.own fr,[],some (fr,.row e t (List.replicate n.toNat t.dflt))⟩):=by
 obtain ⟨h0,rfl,h2⟩:=hp'
 obtain ⟨hu,i,hi,his⟩:=elemOk_spec hT
 obtain ⟨i',z,hi',hz',hrd⟩:=zeroIs_spec hz
 rw[hi] at hi';injection hi' with hi';subst hi'
 rw[hi] at hb
 simp only[Option.map_some,Option.some.injEq] at hb
 have hzs:z.cells.size=t.size:=by have:=(hrd w (fun _=>False)).len;simpa using this
 have hm:m≤140737488355328:=by
  have:(1:Int)≤bytes:=by omega
  have:=Int.mul_le_mul_of_nonneg_right this h0;omega
 have hr:=run_make (P:=P) w T e i z hu hi hz' k k' m m h0 (Int.le_refl _) (by rw[hb];omega) (by omega)
 refine does_run (v:=.slice (some ⟨w.heap.size,0,none⟩) m.toNat m.toNat) (w':=w.alloc (.cells (madeCells z.cells (m.toNat*i.size)) e)) ?_ ?_
 ·unfold execOp;simp only[ho,(avr_int hX).1,(avr_int hY).1]
  rw[Sem.run_bind,hr];rfl
 ·have hl:(madeCells z.cells (m.toNat*i.size)).toList=(List.replicate m.toNat z.cells.toList).flatten:=by rw[his,←hzs];exact made_rows _ _
  refine new_row (cells:=(madeCells z.cells (m.toNat*i.size)).toList) c (below_alloc _) ⟨by simp[size_madeCells,his],.inr ⟨w.heap.size,m.toNat,_,by simp,Nat.le_refl _,heap_alloc_new w _,by simp,by simp[maxLen];omega,by rw[size_madeCells,his],?_⟩⟩ ?_
  ·rw[List.length_replicate,List.take_of_length_le]
   simp[size_madeCells,his]
  ·intro _
   rw[hl]
   exact rows_rep (hrd _ _) _
theorem avrs_rep {hp:Hp} {ψ:Nat→Value} {M':Nat→Prop} {v:Value}:∀n,AVRs P hp ψ w M' (List.replicate n (.cst v)) (List.replicate n [v]).flatten
 |0=>rfl
 |n+1=>⟨v,(List.replicate n [v]).flatten,by simp[List.replicate_succ],rfl,avrs_rep n⟩
theorem locsL_rep {v:Value}:∀n,AV.locsL (List.replicate n (.cst v))=[]
 |0=>rfl
 |n+1=>by rw[List.replicate_succ,AV.locsL,locsL_rep n];rfl
theorem mkarr_ok {T e:TypeId} {bytes:Nat} {X Y:Operand} {k k':IntKind} {n m:Int} (ho:o.op= .makeSlice T X Y) (hT:elemOk P T e .bool=true) (hz:zeroRow P e=true) (hb:(P.info? e).map (·.bytes)=some bytes) (hb0:bytes≠0)
  (hX:AVR P hp ψ w (Mu M hp ψ) (.val (.int k) n) (a.eval X)) (hY:AVR P hp ψ w (Mu M hp ψ) (.val (.int k') m) (a.eval Y)) (hp':0≤n∧m=n∧(bytes:Int)*n≤140737488355328) (c:Ctx P B M hp ψ w fr):
  Does P o a w (OpPost P B M hp ψ w fr ⟨.arr fr n.toNat,[],some (fr,.box e (List.replicate n.toNat (.cst (.slice none 0 0))))⟩):=by
 obtain ⟨h0,rfl,h2⟩:=hp'
 obtain ⟨hu,i,hi,his⟩:=elemOk_spec hT
 have hz':i.zero=some (.slice none 0 0):=by
  unfold zeroRow at hz;rw[hi] at hz;dsimp only at hz;split at hz
  ·assumption
  ·cases hz
 rw[hi] at hb
 simp only[Option.map_some,Option.some.injEq] at hb
 have hm:m≤140737488355328:=by
  have:(1:Int)≤bytes:=by omega
  have:=Int.mul_le_mul_of_nonneg_right this h0;omega
 have hr:=run_make (P:=P) w T e i (.slice none 0 0) hu hi hz' k k' m m h0 (Int.le_refl _) (by rw[hb];omega) (by omega)
 have his1:i.size=1:=his
 refine does_run (v:=.slice (some ⟨w.heap.size,0,none⟩) m.toNat m.toNat) (w':=w.alloc (.cells (madeCells (Value.slice none 0 0).cells (m.toNat*i.size)) e)) ?_ ?_
 ·unfold execOp;simp only[ho,(avr_int hX).1,(avr_int hY).1]
  rw[Sem.run_bind,hr];rfl
 ·have hl:(madeCells (Value.slice none 0 0).cells (m.toNat*i.size)).toList=(List.replicate m.toNat [Value.slice none 0 0]).flatten:=by rw[his1];exact made_rows (Value.slice none 0 0).cells m.toNat
  refine c.fresh (u:=.pointer (some ⟨w.heap.size,0,none⟩)) (below_alloc _) ?_ ?_ ?_
  ·intro b hb
   simp only[blk,Option.some.injEq] at hb;subst hb
   rw[size_alloc];omega
  ·intro _
   refine ⟨w.heap.size,_,by simp,c.hok.bz,heap_alloc_new w _,?_,?_⟩
   ·rw[hl];exact avrs_rep _
   ·rw[hl];intro u hu;simp at hu;rw[hu.2];rfl
  ·intro _ ob _
   exact ⟨w.heap.size,_,by simp,rfl,Nat.le_refl _,by simp[maxLen];omega⟩
theorem splice_one (A:List Value) (i n:Nat) (v:Value) (h:i<A.length):(A.set i v).take (i+1)=A.take i++[v]∧(A.set i v).drop (i+1+n)=A.drop (i+(n+1)):=by
 rw[List.set_eq_take_append_cons_drop,if_pos h];have hl:(A.take i++[v]).length=i+1:=by simp;omega
 rw[show A.take i++v::A.drop (i+1)=(A.take i++[v])++A.drop (i+1) by simp];constructor
 ·rw[←hl,List.take_left]
 ·rw[←List.drop_drop,←hl,List.drop_left,List.drop_drop];congr 1;omega
theorem foldl_set (off:Nat):∀(vs:List Value) (k:Nat) (cells:Array Value),off+k+vs.length≤cells.size→
  ((vs.zipIdx k).foldl (fun (cs:Array Value) (x:Value×Nat)=>cs.setIfInBounds (off+x.2) x.1) cells).toList=cells.toList.take (off+k)++vs++cells.toList.drop (off+k+vs.length)
 |[],k,cells,h=>by simp
 |v::vs,k,cells,h=>by
  simp only[List.zipIdx_cons,List.foldl_cons];simp only[List.length_cons] at h;rw[foldl_set off vs (k+1) _ (by simp;omega),Array.toList_setIfInBounds];obtain ⟨h1,h2⟩:=splice_one cells.toList (off+k) vs.length v (by simp;omega);rw[show off+(k+1)=off+k+1 by omega,h1,h2];simp
theorem fill_ok (h0:HOK P B M hp ψ w) (hlh:∀l ob,lh l=some ob→hp l=some ob) (place:Nat→Option (Nat×Nat)):∀(ps:List (Nat×Ty)) (idx:List Nat) (as':List AV) (vs:List Value) (cs cs':List AV) (cells:Array Value),
  fillx lh cs ps as'=some cs'→AVRs P hp ψ w (Mu M hp ψ) as' vs→AVRs P hp ψ w (Mu M hp ψ) cs cells.toList→(∀u∈cells.toList,u.oneCell'=true)→idx.length=ps.length→(∀(j i:Nat) (p:Nat×Ty),idx[j]?=some i→ps[j]?=some p→place i=some (p.1,p.2.size))→
  ∃cells',Instr.fill place cells (idx.zip vs)=some cells'∧AVRs P hp ψ w (Mu M hp ψ) cs' cells'.toList∧∀u∈cells'.toList,u.oneCell'=true
 |[],idx,as',vs,cs,cs',cells,h,hv,hc,h1,hl,_=>by
  cases as' with
  |nil=>
   simp only[fillx,Option.some.injEq] at h;subst h;obtain rfl:vs=[]:=hv;exact ⟨cells,by simp[Instr.fill],hc,h1⟩
  |cons x r=>simp[fillx] at h
 |(off,t)::ps,idx,as',vs,cs,cs',cells,h,hv,hc,h1,hl,hpl=>by
  cases as' with
  |nil=>simp[fillx] at h
  |cons x r=>
   cases idx with
   |nil=>simp at hl
   |cons i idx=>
    obtain ⟨v,vs',rfl,q1,q2⟩:=hv;simp only[fillx] at h;split at h
    ·rename_i ns hns;split at h
     ·rename_i hle;obtain ⟨n1,n2⟩:=cellsOf_ok h0 hlh hns q1;have hn:v.cells.size=ns.length:=by have:=n1.len;simpa using this
      have hcl:cells.size=cs.length:=by have:=hc.len;simpa using this
      have hp0:=hpl 0 i (off,t) rfl rfl;have hfold:((v.cells.zipIdx.foldl (fun (cs:Array Value) (x:Value×Nat)=>cs.setIfInBounds (off+x.2) x.1) cells)).toList=cells.toList.take off++v.cells.toList++cells.toList.drop (off+v.cells.toList.length):=by
       have:=foldl_set off v.cells.toList 0 cells (by simp;omega);rw[←Array.foldl_toList,Array.toList_zipIdx];simpa using this
      obtain ⟨cells',k1,k2,k3⟩:=fill_ok h0 hlh place ps idx r vs' (splice cs off ns) cs' (v.cells.zipIdx.foldl (fun (cs:Array Value) (x:Value×Nat)=>cs.setIfInBounds (off+x.2) x.1) cells) h q2
       (by rw[hfold];exact splice_r hc n1)
       (by
        rw[hfold];intro u hu;simp only[List.mem_append] at hu;rcases hu with (hu|hu)|hu
        ·exact h1 u (List.mem_of_mem_take hu)
        ·exact n2 u hu
        ·exact h1 u (List.mem_of_mem_drop hu))
       (by simpa using hl) (fun j i' p h2 h3=>hpl (j+1) i' p (by simpa using h2) (by simpa using h3))
      refine ⟨cells',?_,k2,k3⟩;simp only[List.zip_cons_cons,Instr.fill,hp0];rw[if_neg (by simp;omega)];exact k1
     ·cases h
    ·cases h
theorem partsOk_spec {T:TypeId} {t:Ty} {fs:Array Field} (hu:P.underlying T=some (.struct fs)):∀(parts:List (Nat×Operand)) (ps:List (Nat×Ty)),partsOk P T t parts ps=true→
  parts.length=ps.length∧∀(j i:Nat) (p:Nat×Ty),(parts.map (·.1))[j]?=some i→ps[j]?=some p→∃x:Field,fs[i]?=some x∧x.offset=p.1∧(P.info? x.type).map (·.size)=some p.2.size
 |[],[],_=>⟨rfl,fun j i p h=>by simp at h⟩
 |(f,y)::r,(off,ty)::s,h=>by
  simp only[partsOk,Bool.and_eq_true] at h;obtain ⟨h1,h2⟩:=partsOk_spec hu r s h.2;refine ⟨by simp[h1],fun j i p k1 k2=>?_⟩;cases j with
  |zero=>
   simp at k1 k2;subst k1 k2;obtain ⟨fs',x,q1,q2,q3,q4,_⟩:=fieldOk_spec h.1;rw[hu] at q1;injection q1 with q1;injection q1 with q1;subst q1;exact ⟨x,q2,q3,tyOk_size q4⟩
  |succ j=>exact h2 j i p (by simpa using k1) (by simpa using k2)
 |[],_::_,h=>by simp[partsOk] at h
 |_::_,[],h=>by simp[partsOk] at h
theorem part_rd {M':Nat→Prop} {T:TypeId} {t:Ty} (hT:tyOk P T t=true) {pre cc post:List Value} {cs:Array Value} (e:cs.toList=pre++cc++post) {x:t.den} (q:Rd P t w M' x cc) {o:Nat} (ho:pre.length=o):
  ∃v,(part T cs o).run P w= .ok v w∧RdV P t w M' x v:=by
 subst ho
 obtain ⟨r1,r2⟩:=run_part_of (w:=w) hT e q.len
 cases hs:t.isSt with
 |true=>exact ⟨_,r1 hs,shape_agg hs,by simpa [Value.cells] using q⟩
 |false=>
  obtain ⟨h3,_,_⟩:=tyOk_one (w:=w) hT hs
  have hl:=q.len
  rw[h3] at hl
  obtain ⟨u,rfl⟩:=List.length_eq_one_iff.1 hl
  have h1:=q.one u (by simp)
  refine ⟨u,r2 hs u rfl,?_,?_⟩
  ·unfold Ty.shape;rw[hs];cases u<;>simp_all [Value.oneCell']
  ·have:u.cells= #[u]:=by cases u<;>simp_all [Value.cells,Value.oneCell']
   rw[this];exact q
theorem eqFs_ok {M':Nat→Prop} {E:Ty→TypeId→Bool} {d:Nat} (hE:∀t T,E t T=true→∀(x y:t.den) v u,RdV P t w M' x v→RdV P t w M' y u→(Op.equalIn d T v u).run P w= .ok (eqd t x y) w):
  ∀(fs:List Field) (t:Ty) (o:Nat),eqFs P E t fs o=true→∀(x y:t.den) (p1 c1 p2 c2:List Value) (xs ys:Array Value),xs.toList=p1++c1→ys.toList=p2++c2→p1.length=o→p2.length=o→
   Rd P t w M' x c1→Rd P t w M' y c2→(Op.eqFields d xs ys fs).run P w= .ok (eqd t x y) w:=by
 have one:∀(f:Field) (fs:List Field) (t:Ty) (o:Nat),(f.name != "_" &&f.offset==o&&tyOk P f.type t&&E t f.type)=true→∀(x y:t.den) (p1 c1 r1 p2 c2 r2:List Value) (xs ys:Array Value),xs.toList=p1++c1++r1→ys.toList=p2++c2++r2→p1.length=o→p2.length=o→
   Rd P t w M' x c1→Rd P t w M' y c2→(Op.eqFields d xs ys (f::fs)).run P w=if eqd t x y then (Op.eqFields d xs ys fs).run P w else .ok false w:=by
  intro f fs t o h x y p1 c1 r1 p2 c2 r2 xs ys e1 e2 o1 o2 q1 q2
  simp only[Bool.and_eq_true,bne_iff_ne,beq_iff_eq,ne_eq] at h
  obtain ⟨⟨⟨hn,ho⟩,hT⟩,hEt⟩:=h
  obtain ⟨v,k1,k2⟩:=part_rd (w:=w) hT e1 q1 o1
  obtain ⟨u,k3,k4⟩:=part_rd (w:=w) hT e2 q2 o2
  simp only[Op.eqFields,hn,ne_eq,not_false_eq_true,if_true,Sem.run_bind,ho,k1,k3,hE t f.type hEt x y v u k2 k4,Result.andThen_ok]
  cases eqd t x y<;>simp
 intro fs
 induction fs with
 |nil=>
  intro t o h x y p1 c1 p2 c2 xs ys e1 e2 o1 o2 q1 q2
  cases t<;>simp[eqFs] at h
  simp[Op.eqFields,eqd]
 |cons f fs ih=>
  intro t o h x y p1 c1 p2 c2 xs ys e1 e2 o1 o2 q1 q2
  have last:∀(t:Ty),fs=[]→(f.name != "_" &&f.offset==o&&tyOk P f.type t&&E t f.type)=true→∀(x y:t.den),Rd P t w M' x c1→Rd P t w M' y c2→(Op.eqFields d xs ys (f::fs)).run P w= .ok (eqd t x y) w:=by
   intro t hf h x y q1 q2;rw[one f fs t o h x y p1 c1 [] p2 c2 [] xs ys (by simpa using e1) (by simpa using e2) o1 o2 q1 q2,hf];cases eqd t x y<;>simp[Op.eqFields]
  cases t with
  |cons a b=>
   cases fs with
   |nil=>exact last (.cons a b) rfl (by simpa [eqFs] using h) x y q1 q2
   |cons g fs=>
    simp only[eqFs] at h
    rw[Bool.and_eq_true] at h
    obtain ⟨h1,h2⟩:=h
    obtain ⟨c11,c12,rfl,m1,m2⟩:=q1
    obtain ⟨c21,c22,rfl,m3,m4⟩:=q2
    rw[one f (g::fs) a o h1 x.1 y.1 p1 c11 c12 p2 c21 c22 xs ys (by rw[e1,List.append_assoc]) (by rw[e2,List.append_assoc]) o1 o2 m1 m3]
    rw[ih b (o+a.size) h2 x.2 y.2 (p1++c11) c12 (p2++c21) c22 xs ys (by rw[e1,List.append_assoc]) (by rw[e2,List.append_assoc]) (by simp[o1,m1.len]) (by simp[o2,m3.len]) m2 m4]
    simp only[eqd]
    cases eqd a x.1 y.1<;>simp
  |nil=>simp[eqFs] at h
  |bool=>cases fs with
   |nil=>exact last _ rfl (by simpa [eqFs] using h) x y q1 q2
   |cons _ _=>simp[eqFs] at h
  |int k=>cases fs with
   |nil=>exact last _ rfl (by simpa [eqFs] using h) x y q1 q2
   |cons _ _=>simp[eqFs] at h
  |str=>cases fs with
   |nil=>exact last _ rfl (by simpa [eqFs] using h) x y q1 q2
   |cons _ _=>simp[eqFs] at h
  |sl t=>cases fs with
   |nil=>exact last _ rfl (by simpa [eqFs] using h) x y q1 q2
   |cons _ _=>simp[eqFs] at h
  |ptr t=>cases fs with
   |nil=>exact last _ rfl (by simpa [eqFs] using h) x y q1 q2
   |cons _ _=>simp[eqFs] at h
  |st t=>cases fs with
   |nil=>exact last _ rfl (by simpa [eqFs] using h) x y q1 q2
   |cons _ _=>simp[eqFs] at h
  |fn a r=>cases fs with
   |nil=>exact last _ rfl (by simpa [eqFs] using h) x y q1 q2
   |cons _ _=>simp[eqFs] at h
  |fn2 a b r=>cases fs with
   |nil=>exact last _ rfl (by simpa [eqFs] using h) x y q1 q2
   |cons _ _=>simp[eqFs] at h
  |mp k t=>cases fs with
   |nil=>exact last _ rfl (by simpa [eqFs] using h) x y q1 q2
   |cons _ _=>simp[eqFs] at h
theorem eqTy_ok {M':Nat→Prop} (d:Nat):∀(n:Nat) (t:Ty) (T:TypeId),eqTy P n t T=true→∀(x y:t.den) v u,RdV P t w M' x v→RdV P t w M' y u→(Op.equalIn (d+n) T v u).run P w= .ok (eqd t x y) w
 |0,_,_,h=>by simp[eqTy] at h
 |n+1,t,T,h=>by
  intro x y v u q1 q2;cases t with
  |bool=>
   simp only[eqTy] at h;split at h
   ·rename_i hu;have e1:=(RdV.one q1 rfl rfl).1;have e2:=(RdV.one q2 rfl rfl).1;simp only[Rd,List.cons.injEq,and_true] at e1 e2;rw[e1,e2,show d+(n+1)=(d+n)+1 from rfl];exact run_equalIn_bool' w _ T x y hu
   ·cases h
  |int k=>
   simp only[eqTy] at h;split at h
   ·rename_i k' hu;have e1:=(RdV.one q1 rfl rfl).1.1;have e2:=(RdV.one q2 rfl rfl).1.1;simp only[List.cons.injEq,and_true] at e1 e2;rw[e1,e2,show d+(n+1)=(d+n)+1 from rfl];exact run_equalIn_int w _ T k k' x y hu
   ·cases h
  |str=>
   simp only[eqTy] at h;split at h
   ·rename_i hu;have e1:=(RdV.one q1 rfl rfl).1.1;have e2:=(RdV.one q2 rfl rfl).1.1;simp only[List.cons.injEq,and_true] at e1 e2;rw[e1,e2,show d+(n+1)=(d+n)+1 from rfl];exact run_equalIn_string w _ T x y hu
   ·cases h
  |st t=>
   simp only[eqTy] at h;split at h
   ·rename_i fs hu;simp only[Bool.and_eq_true,Bool.not_eq_true'] at h;obtain ⟨xs,rfl⟩:=q1.1.2 rfl;obtain ⟨ys,rfl⟩:=q2.1.2 rfl;have hf:P.fieldsOf T=fs:=by simp[Program.fieldsOf,hu]
    rw[show d+(n+1)=(d+n)+1 from rfl,run_equalIn_struct w (d+n) T xs ys (by rw[hf];exact hu) h.1,hf];have r1:Rd P t w M' x xs.toList:=q1.2;have r2:Rd P t w M' y ys.toList:=q2.2;exact eqFs_ok (fun t T h x y v u k1 k2=>eqTy_ok d n t T h x y v u k1 k2) fs.toList t 0 h.2 x y [] xs.toList [] ys.toList xs ys rfl rfl rfl rfl r1 r2
   ·cases h
  |_=>simp[eqTy] at h
theorem steq_ok {op:BinOp} {neg:Bool} {t:Ty} {T:TypeId} {X Y:Operand} {yt:TypeId} {x y:AV} {b:Bool} (ho:o.op= .binOp op T X Y yt) (hop:op=if neg then .neq else .eql) (hst:t.isSt=true) (hT:eqTy P 50 t T=true) (hg:P.eqGuardType P.depth T=false)
  (hlh:∀l ob,lh l=some ob→hp l=some ob) (hX:AVR P hp ψ w (Mu M hp ψ) x (a.eval X)) (hY:AVR P hp ψ w (Mu M hp ψ) y (a.eval Y)) (h:eqsx lh t x y=some b) (c:Ctx P B M hp ψ w fr):Does P o a w (OpPost P B M hp ψ w fr (pur (.val .bool (if neg then !b else b)))):=by
 subst hop
 unfold eqsx at h
 split at h
 ·rename_i d1 ls h1
  split at h
  ·rename_i d2 ms h2
   injection h with h;subst h
   have r1:=rd_ok c.hok hlh h1 hX (ls':=ls++ms) (fun _ h=>by simp[h])
   have r2:=rd_ok c.hok hlh h2 hY (ls':=ls++ms) (fun _ h=>by simp[h])
   obtain ⟨xs,ex⟩:=r1.1.2 hst
   obtain ⟨ys,ey⟩:=r2.1.2 hst
   have he:=eqTy_ok (w:=w) 9950 50 t T hT d1 d2 _ _ r1 r2
   rw[ex,ey] at he
   refine does_run ?_ (c.pure bool_avr)
   have hgd:∀op',(eqGuard op' T X Y (.agg xs) (.agg ys)).run P w= .ok () w:=fun op'=>run_eqGuard_agg w op' T X Y xs ys hg
   have he':(Op.equal T (.agg xs) (.agg ys)).run P w= .ok (eqd t d1 d2) w:=he
   cases neg<;>(unfold execOp;simp only[ho,ex,ey,if_true,if_false,Bool.false_eq_true];simp[binOp,hgd,he'])
  ·cases h
 ·cases h
theorem run_zero {E:TypeId} {z:Value} (h:(P.info? E).bind (·.zero)=some z):(zeroValue E).run P w= .ok z w:=by
 obtain ⟨i,hi,hz⟩:=Option.bind_eq_some_iff.1 h;simp[zeroValue,typeInfo,hi,hz]
theorem mapOk_spec {T:TypeId} {k:IntKind} {t:Ty} (h:mapOk P T k t=true):∃K E,P.underlying T=some (.map K E)∧P.underlying K=some (.int k)∧(∀w:World,(zeroValue E).run P w= .ok (mval t t.dflt) w)∧mOk t t.dflt∧t.isSt=false:=by
 unfold mapOk at h;split at h
 ·rename_i K E hu;simp only[Bool.and_eq_true] at h;obtain ⟨h1,h2⟩:=h;refine ⟨K,E,hu,?_,?_⟩
  ·split at h1
   ·rename_i k' hk;simp only[beq_iff_eq] at h1;rw[hk,h1]
   ·cases h1
  ·split at h2
   ·rename_i hz;exact ⟨fun w=>run_zero hz,trivial,rfl⟩
   ·rename_i q n q' hz;simp only[Bool.and_eq_true,beq_iff_eq] at h2;obtain ⟨rfl,rfl⟩:=h2;exact ⟨fun w=>run_zero hz,by show q.min≤0∧0≤q.max;cases q<;>decide,rfl⟩
   ·rename_i s hz;simp only[beq_iff_eq] at h2;have:s=ByteArray.empty:=by
     obtain ⟨⟨l⟩⟩:=s;have:l.length=0:=h2;rw[List.length_eq_zero_iff] at this;subst this;rfl
    subst this;exact ⟨fun w=>run_zero hz,Nat.zero_le _,rfl⟩
   ·cases h2
 ·cases h
theorem mval_rd {M':Nat→Prop} {t:Ty} {d:t.den} (h:mOk t d):RdV P t w M' d (mval t d):=by
 cases t<;>simp only[mOk] at h<;>(try exact h.elim)
 ·exact ⟨by unfold Ty.shape Ty.isSt;simp[mval],rfl⟩
 ·exact ⟨by unfold Ty.shape Ty.isSt;simp[mval],rfl,h⟩
 ·exact ⟨by unfold Ty.shape Ty.isSt;simp[mval],rfl,h⟩
theorem rd_mval {M':Nat→Prop} {t:Ty} {d d0:t.den} {v:Value} (h0:mOk t d0) (h:RdV P t w M' d v):v=mval t d∧mOk t d:=by
 cases t<;>simp only[mOk] at h0<;>(try exact h0.elim)
 ·have:=(RdV.one h rfl rfl).1;simp only[Rd,List.cons.injEq,and_true] at this;exact ⟨this,trivial⟩
 ·have:=(RdV.one h rfl rfl).1;exact ⟨(List.cons.inj this.1).1,this.2⟩
 ·have:=(RdV.one h rfl rfl).1;exact ⟨(List.cons.inj this.1).1,this.2⟩
theorem findNow_map {k:IntKind} {t:Ty} (i:Int) (z:Value):∀(es:List MapEntry) (xs:List (Int×t.den)) (j:Nat),es.map (fun x=>(x.key,x.val))=xs.map (fun p=>(Value.int k p.1,mval t p.2))→
  (Instr.findNow (.int k) (.int k i) es j=some none∧mhas xs i=false∧(∀e∈es,e.key≠ .int k i)∧(∀d,mget d xs i=d)∧∀d,mset xs i d=xs++[(i,d)])∨
  ∃m,Instr.findNow (.int k) (.int k i) es j=some (some (j+m,mval t (mget t.dflt xs i)))∧mhas xs i=true∧(∃e,es[m]?=some e∧e.key= .int k i)∧(∃p∈xs,p.2=mget t.dflt xs i)∧∀d,mset xs i d=xs.set m (i,d)
 |[],xs,j,h=>by
  cases xs with
  |nil=>exact .inl ⟨rfl,rfl,fun e he=>(by cases he),fun _=>rfl,fun _=>rfl⟩
  |cons _ _=>simp at h
 |e::es,xs,j,h=>by
  cases xs with
  |nil=>simp at h
  |cons p xs=>
   simp only[List.map_cons,List.cons.injEq,Prod.mk.injEq] at h;obtain ⟨⟨h1,h2⟩,h3⟩:=h;by_cases c:p.1=i
   ·refine .inr ⟨0,?_,by simp[mhas,c],⟨e,rfl,by rw[h1,c]⟩,⟨p,by simp,by simp[mget,c]⟩,fun d=>by simp[mset,c]⟩;simp[Instr.findNow,Instr.sameNow,h1,h2,c,mget]
   ·have hs:Instr.sameNow (.int k) (.int k i) e.key=some false:=by
     rw[h1];simp[Instr.sameNow];exact fun e=>c e.symm
    rcases findNow_map (k:=k) i z es xs (j+1) h3 with ⟨k1,k2,k3,k4,k5⟩|⟨m,k1,k2,⟨e',k3,k3'⟩,⟨q,k4,k4'⟩,k5⟩
    ·refine .inl ⟨by simp[Instr.findNow,hs,k1],by simp[mhas,c,k2],?_,fun d=>by simp[mget,c,k4],fun d=>by simp[mset,c,k5]⟩;intro x hx;rcases List.mem_cons.1 hx with rfl|hx
     ·rw[h1];simp[c]
     ·exact k3 x hx
    ·refine .inr ⟨m+1,?_,by simp[mhas,c,k2],⟨e',by simpa using k3,k3'⟩,⟨q,by simp[k4],by simp[mget,c,k4']⟩,fun d=>by simp[mset,c,k5]⟩;simp[Instr.findNow,hs,k1,mget,c];omega
theorem keyOf'_some {k:IntKind} {b:AV} {i:Int} (h:keyOf' k b=some i):b= .val (.int k) i:=by
 unfold keyOf' at h;split at h
 ·split at h
  ·rename_i e;injection h with h;subst h e;rfl
  ·cases h
 ·cases h
theorem mapOf_some {k:IntKind} {t:Ty} {x:AV} {l:Nat} {xs:List (Int×t.den)} (h:mapOf lh k t x=some (l,xs)):x= .own l∧lh l=some (.mp k t xs):=by
 unfold mapOf at h;split at h
 ·rename_i l0;split at h
  ·rename_i k' t' ys hl;obtain ⟨zs,hz,e⟩:=Option.map_eq_some_iff.1 h;simp only[Prod.mk.injEq] at e;obtain ⟨rfl,rfl⟩:=e;obtain ⟨q,q'⟩:=cast?_some hz;simp only[Ty.sl.injEq,Ty.cons.injEq,Ty.int.injEq] at q;obtain ⟨rfl,rfl⟩:=q;simp only at q';subst q';exact ⟨rfl,hl⟩
  ·cases h
 ·cases h
theorem mkmap_ok {T:TypeId} {k:IntKind} {t:Ty} (ho:o.op= .makeMap T none) (c:Ctx P B M hp ψ w fr):Does P o a w (OpPost P B M hp ψ w fr ⟨.own fr,[],some (fr,.mp k t [])⟩):=by
 refine does_run (v:=.map (some w.heap.size)) (w':=w.alloc (.map #[] 0)) (by unfold execOp;simp[ho,Instr.makeMap]) (c.fresh (u:=.map (some w.heap.size)) (below_alloc _) ?_ ?_ ?_)
 ·intro b hb;simp only[blk,Option.some.injEq] at hb;subst hb;rw[size_alloc];omega
 ·intro _;exact ⟨w.heap.size,#[],0,by simp,c.hok.bz,heap_alloc_new w _,Go.MapKept.stamped_empty 0,rfl,fun p hp=>by cases hp⟩
 ·intro _ ob _;simp
theorem mapget_ok {T:TypeId} {k:IntKind} {t:Ty} {ok:Bool} {X I:Operand} {x b:AV} {l:Nat} {xs:List (Int×t.den)} {i:Int} (ho:o.op= .lookup T X I ok) (hT:mapOk P T k t=true) (hlh:∀l ob,lh l=some ob→hp l=some ob)
  (hX:AVR P hp ψ w (Mu M hp ψ) x (a.eval X)) (hI:AVR P hp ψ w (Mu M hp ψ) b (a.eval I)) (h1:mapOf lh k t x=some (l,xs)) (h2:keyOf' k b=some i) (c:Ctx P B M hp ψ w fr):
  Does P o a w (OpPost P B M hp ψ w fr (pur (if ok then .tup [.val t (mget t.dflt xs i),.val .bool (mhas xs i)] else .val t (mget t.dflt xs i)))):=by
 obtain ⟨K,E,u1,u2,u3,u4,u5⟩:=mapOk_spec hT
 obtain ⟨rfl,hl⟩:=mapOf_some h1
 obtain rfl:=keyOf'_some h2
 have hl':=hlh _ _ hl
 obtain ⟨r,es,clock,e1,hB,hg,hst,hes,hval⟩:=c.hok.ob l _ hl'
 have eX:=hX _ hl'
 rw[e1] at eX
 have eI:a.eval I= .int k i:=by have:=(RdV.one hI rfl rfl).1.1;simpa using this
 have hk:Go.MapKept.IsKey (.int k) (.int k i):=rfl
 have hv:mOk t (mget t.dflt xs i):=by
  rcases findNow_map (k:=k) i undef es.toList xs 0 hes with ⟨_,_,_,k4,_⟩|⟨m,_,_,_,⟨q,k4,k4'⟩,_⟩
  ·rw[k4];exact u4
  ·rw[←k4'];exact (hval q k4).2
 have run:(Instr.lookup T (a.eval X) (a.eval I) ok).run P w= .ok (if ok then .tuple #[mval t (mget t.dflt xs i),.bool (mhas xs i)] else mval t (mget t.dflt xs i)) w:=by
  rw[eX,eI];rcases findNow_map (k:=k) i undef es.toList xs 0 hes with ⟨k1,k2,_,k4,_⟩|⟨m,k1,k2,_,_,_⟩
  ·unfold Instr.lookup;simp[run_underlying u1,Go.MapKept.run_getObj_map hg,Go.MapKept.run_checkKey u2 hk,Go.MapKept.run_findKey u2 k1,u3,k2,k4,Result.andThen]
  ·unfold Instr.lookup;simp[run_underlying u1,Go.MapKept.run_getObj_map hg,Go.MapKept.run_checkKey u2 hk,Go.MapKept.run_findKey u2 k1,k2,Result.andThen]
 refine does_run (v:=if ok then .tuple #[mval t (mget t.dflt xs i),.bool (mhas xs i)] else mval t (mget t.dflt xs i)) (w':=w) (by unfold execOp;simp[ho,run]) (c.pure ?_)
 cases ok with
 |true=>exact ⟨_,rfl,_,_,rfl,mval_rd hv,_,_,rfl,bool_avr,rfl⟩
 |false=>exact mval_rd hv
theorem mapset_ok {T:TypeId} {k:IntKind} {t:Ty} {X I Y:Operand} {x b:AV} {l:Nat} {xs:List (Int×t.den)} {i:Int} {d:t.den} (ho:o.op= .mapUpdate T X I Y∨o.op= .insert T X I Y) (hT:mapOk P T k t=true) (hlh:∀l ob,lh l=some ob→hp l=some ob)
  (hX:AVR P hp ψ w (Mu M hp ψ) x (a.eval X)) (hI:AVR P hp ψ w (Mu M hp ψ) b (a.eval I)) (hY:AVR P hp ψ w (Mu M hp ψ) (.val t d) (a.eval Y)) (h1:mapOf lh k t x=some (l,xs)) (h2:keyOf' k b=some i) (c:Ctx P B M hp ψ w fr):
  Does P o a w (OpPost P B M hp ψ w fr ⟨.top,[],some (l,.mp k t (mset xs i d))⟩):=by
 obtain ⟨K,E,u1,u2,u3,u4,u5⟩:=mapOk_spec hT
 obtain ⟨rfl,hl⟩:=mapOf_some h1
 obtain rfl:=keyOf'_some h2
 have hl':=hlh _ _ hl
 obtain ⟨r,es,clock,e1,hB,hg,hst,hes,hval⟩:=c.hok.ob l _ hl'
 have eX:=hX _ hl'
 rw[e1] at eX
 have eI:=(RdV.one hI rfl rfl).1
 obtain ⟨eI,hkr⟩:=eI
 simp only[List.cons.injEq,and_true] at eI
 obtain ⟨eY,hd⟩:=rd_mval u4 hY
 have hk:Go.MapKept.IsKey (.int k) (.int k i):=rfl
 have hval':∀p∈mset xs i d,(k.min≤p.1∧p.1≤k.max)∧mOk t p.2:=by
  rcases findNow_map (k:=k) i undef es.toList xs 0 hes with ⟨_,_,_,_,k5⟩|⟨m,_,_,_,_,k5⟩
  ·rw[k5];intro p hp;rcases List.mem_append.1 hp with hp|hp
   ·exact hval p hp
   ·simp only[List.mem_singleton] at hp;subst hp;exact ⟨hkr,hd⟩
  ·rw[k5];intro p hp;rcases List.mem_or_eq_of_mem_set hp with hp|rfl
   ·exact hval p hp
   ·exact ⟨hkr,hd⟩
 obtain ⟨es',clock',run,hst',hes'⟩:∃es' clock',(Instr.mapUpdate T (a.eval X) (a.eval I) (a.eval Y)).run P w= .ok () { w with heap:=w.heap.setIfInBounds r (.map es' clock') }∧Go.MapKept.Stamped es' clock'∧
   es'.toList.map (fun x=>(x.key,x.val))=(mset xs i d).map (fun p=>(Value.int k p.1,mval t p.2)):=by
  rw[eX,eI,eY]
  rcases findNow_map (k:=k) i undef es.toList xs 0 hes with ⟨k1,_,k3,_,k5⟩|⟨m,k1,_,⟨e,k3,k3'⟩,_,k5⟩
  ·refine ⟨es.push { key:=.int k i,val:=mval t d,born:=clock },clock+1,by simp[Instr.mapUpdate,run_underlying u1,Go.MapKept.run_getObj_map hg,Go.MapKept.run_checkKey u2 hk,Go.MapKept.run_findKey u2 k1,Go.MapKept.run_setObj_map _ hg,Result.andThen],Go.MapKept.stamped_push hst k3,?_⟩
   rw[k5,Array.toList_push,List.map_append,List.map_append,hes];rfl
  ·have hj:es[m]?=some e:=by simpa using k3
   have hm:m<es.size:=(Array.getElem?_eq_some_iff.1 hj).1
   rw[Nat.zero_add] at k1
   refine ⟨es.modify m fun e=>{ e with key:=.int k i,val:=mval t d },clock,by simp[Instr.mapUpdate,run_underlying u1,Go.MapKept.run_getObj_map hg,Go.MapKept.run_checkKey u2 hk,Go.MapKept.run_findKey u2 k1,hj,k3',Go.MapKept.run_keyThatStays hk,Go.MapKept.run_setObj_map _ hg,Result.andThen],Go.MapKept.stamped_modify hst _ _ (fun _ _=>rfl) (fun e' _ he'=>by rw[hj] at he';cases he';exact k3'.symm),?_⟩
   rw[k5,List.map_set,←hes]
   apply List.ext_getElem?
   intro j
   rw[List.getElem?_map,Array.getElem?_toList,Array.getElem?_modify,List.getElem?_set]
   by_cases hjm:m=j
   ·subst hjm
    have hm2:m<es.toList.length:=by simpa using hm
    simp[hj,hm]
   ·simp[hjm]
 have hrun:(execOp a.eval o).run P w= .ok .skip { w with heap:=w.heap.setIfInBounds r (.map es' clock') }:=by
  unfold execOp;rcases ho with ho|ho<;>simp[ho,run]
 refine does_skip hrun (c.write hl' ⟨rfl,rfl⟩ (by simp) rfl rfl rfl (by simp) (fun b hb hne=>?_) (fun _=>?_) (fun _=>trivial))
 ·exact (Go.MapKept.heap_set hg).2 b fun e=>hne (by rw[e1,e];rfl)
 ·exact ⟨r,es',clock',e1,hB,(Go.MapKept.heap_set hg).1,hst',hes',hval'⟩
theorem findNow_mapd {k:IntKind} {t:Ty} (i:Int):∀(es:List MapEntry) (xs:List (Int×t.den)) (j:Nat),es.map (fun x=>(x.key,x.val))=xs.map (fun p=>(Value.int k p.1,mval t p.2))→
  (Instr.findNow (.int k) (.int k i) es j=some none∧mdel xs i=xs)∨∃m v,Instr.findNow (.int k) (.int k i) es j=some (some (j+m,v))∧m<es.length∧mdel xs i=xs.eraseIdx m
 |[],xs,j,h=>by
  cases xs with
  |nil=>exact .inl ⟨rfl,rfl⟩
  |cons _ _=>simp at h
 |e::es,xs,j,h=>by
  cases xs with
  |nil=>simp at h
  |cons p xs=>
   simp only[List.map_cons,List.cons.injEq,Prod.mk.injEq] at h;obtain ⟨⟨h1,h2⟩,h3⟩:=h;by_cases c:p.1=i
   ·refine .inr ⟨0,mval t p.2,?_,by simp,by simp[mdel,c]⟩;simp[Instr.findNow,Instr.sameNow,h1,h2,c]
   ·have hs:Instr.sameNow (.int k) (.int k i) e.key=some false:=by
     rw[h1];simp[Instr.sameNow];exact fun e=>c e.symm
    rcases findNow_mapd (k:=k) i es xs (j+1) h3 with ⟨k1,k2⟩|⟨m,v,k1,k2,k3⟩
    ·exact .inl ⟨by simp[Instr.findNow,hs,k1],by simp[mdel,c,k2]⟩
    ·refine .inr ⟨m+1,v,?_,by simpa using k2,by simp[mdel,c,k3]⟩;simp[Instr.findNow,hs,k1];omega
theorem mapdel_ok {T:TypeId} {k:IntKind} {t:Ty} {X I:Operand} {ts:Array TypeId} {x b:AV} {l:Nat} {xs:List (Int×t.den)} {i:Int} (ho:o.op= .call ⟨.builtin .delete,#[X,I],ts⟩) (hts:ts[0]?=some T) (hT:mapOk P T k t=true) (hlh:∀l ob,lh l=some ob→hp l=some ob)
  (hX:AVR P hp ψ w (Mu M hp ψ) x (a.eval X)) (hI:AVR P hp ψ w (Mu M hp ψ) b (a.eval I)) (h1:mapOf lh k t x=some (l,xs)) (h2:keyOf' k b=some i) (c:Ctx P B M hp ψ w fr):
  Does P o a w (OpPost P B M hp ψ w fr ⟨.top,[],some (l,.mp k t (mdel xs i))⟩):=by
 obtain ⟨K,E,u1,u2,u3,u4,u5⟩:=mapOk_spec hT
 obtain ⟨rfl,hl⟩:=mapOf_some h1
 obtain rfl:=keyOf'_some h2
 have hl':=hlh _ _ hl
 obtain ⟨r,es,clock,e1,hB,hg,hst,hes,hval⟩:=c.hok.ob l _ hl'
 have eX:=hX _ hl'
 rw[e1] at eX
 have eI:a.eval I= .int k i:=by have:=(RdV.one hI rfl rfl).1.1;simpa using this
 have hk:Go.MapKept.IsKey (.int k) (.int k i):=rfl
 obtain ⟨es',run,hst',hes',hval'⟩:∃es',(Builtin.delete_ ts o.type #[a.eval X,a.eval I]).run P w= .ok (.tuple #[]) { w with heap:=w.heap.setIfInBounds r (.map es' clock) }∧Go.MapKept.Stamped es' clock∧
   es'.toList.map (fun x=>(x.key,x.val))=(mdel xs i).map (fun p=>(Value.int k p.1,mval t p.2))∧∀p∈mdel xs i,(k.min≤p.1∧p.1≤k.max)∧mOk t p.2:=by
  rw[eX,eI]
  rcases findNow_mapd (k:=k) i es.toList xs 0 hes with ⟨k1,k2⟩|⟨m,v,k1,k2,k3⟩
  ·refine ⟨es,by simp[Builtin.delete_,hts,run_underlying u1,Go.MapKept.run_getObj_map hg,Go.MapKept.run_checkKey u2 hk,Go.MapKept.run_findKey u2 k1,Go.MapKept.run_setObj_map _ hg,Result.andThen],hst,by rw[k2];exact hes,by rw[k2];exact hval⟩
  ·rw[Nat.zero_add] at k1
   refine ⟨es.eraseIdxIfInBounds m,by simp[Builtin.delete_,hts,run_underlying u1,Go.MapKept.run_getObj_map hg,Go.MapKept.run_checkKey u2 hk,Go.MapKept.run_findKey u2 k1,Go.MapKept.run_setObj_map _ hg,Result.andThen],Go.MapKept.stamped_erase hst m,?_,?_⟩
   ·have hm:m<es.size:=by simpa using k2
    rw[k3]
    have e:(es.eraseIdxIfInBounds m).toList=es.toList.eraseIdx m:=by
     unfold Array.eraseIdxIfInBounds;rw[dif_pos hm,Array.toList_eraseIdx]
    rw[e,List.eraseIdx_eq_take_drop_succ,List.eraseIdx_eq_take_drop_succ,List.map_append,List.map_append,List.map_take,List.map_drop,List.map_take,List.map_drop,hes]
   ·rw[k3]
    exact fun p hp=>hval p ((List.eraseIdx_sublist xs m).subset hp)
 have hrun:(execOp a.eval o).run P w= .ok (.value (.tuple #[])) { w with heap:=w.heap.setIfInBounds r (.map es' clock) }:=by
  unfold execOp;simp only[ho];simp[resolve,invoke,builtin,run]
 refine does_run hrun (c.write hl' ⟨rfl,rfl⟩ (by simp) rfl rfl rfl (by simp) (fun b hb hne=>?_) (fun _=>?_) (fun _=>trivial))
 ·exact (Go.MapKept.heap_set hg).2 b fun e=>hne (by rw[e1,e];rfl)
 ·exact ⟨r,es',clock,e1,hB,(Go.MapKept.heap_set hg).1,hst',hes',hval'⟩
theorem leftOf_none {es:Array MapEntry}:leftOf es #[]=es:=by
 unfold leftOf;rw[Array.filter_eq_self];intro x _;simp
theorem left_push {es:Array MapEntry} {seen:Array Nat} {b:Nat}:(leftOf es (seen.push b)).toList=(leftOf es seen).toList.filter fun x=>!(x.born==b):=by
 unfold leftOf;rw[Array.toList_filter,Array.toList_filter,List.filter_filter];congr 1;funext x;rw[contains_push];cases seen.contains x.born<;>cases (x.born==b)<;>rfl
theorem filter_erase:∀{l:List MapEntry} {i:Nat} {e:MapEntry},(l.map (·.born)).Nodup→l[i]?=some e→(l.filter fun x=>!(x.born==e.born))=l.eraseIdx i
 |[],i,e,_,h=>by simp at h
 |x::l,0,e,hn,h=>by
  simp only[List.getElem?_cons_zero,Option.some.injEq] at h;subst h;have hn':x.born∉l.map (·.born)∧(l.map (·.born)).Nodup:=List.nodup_cons.1 hn
  rw[List.filter_cons_of_neg (by simp),List.eraseIdx_zero,List.tail_cons,List.filter_eq_self];intro y hy;have:y.born≠x.born:=fun q=>hn'.1 (by rw[←q];exact List.mem_map.2 ⟨y,hy,rfl⟩);simpa using this
 |x::l,i+1,e,hn,h=>by
  have hn':x.born∉l.map (·.born)∧(l.map (·.born)).Nodup:=List.nodup_cons.1 hn
  have h':l[i]?=some e:=by simpa using h
  have:x.born≠e.born:=fun q=>hn'.1 (by rw[q];exact List.mem_map.2 ⟨e,List.mem_of_getElem? h',rfl⟩);rw[List.filter_cons_of_pos (by simpa using this),filter_erase hn'.2 h',List.eraseIdx_cons_succ]
theorem mrange_ok {T:TypeId} {k:IntKind} {t:Ty} {X:Operand} {x:AV} {d:List (Int×t.den)} {ls:List Nat} (ho:o.op= .range T X) (hT:mapOk P T k t=true) (hlh:∀l ob,lh l=some ob→hp l=some ob)
  (hX:AVR P hp ψ w (Mu M hp ψ) x (a.eval X)) (h1:rd lh (.mp k t) x=some (d,ls)) (c:Ctx P B M hp ψ w fr):Does P o a w (OpPost P B M hp ψ w fr ⟨.ptr fr 0,ls,some (fr,.it k t d none)⟩):=by
 obtain ⟨K,E,u1,u2,u3,u4,u5⟩:=mapOk_spec hT
 obtain ⟨bm,es,clock,e0,hb,hm,hg,hst,hes,hval⟩:=(RdV.one (t:=.mp k t) (rd_ok c.hok hlh h1 hX (ls':=ls) (fun _ h=>h)) rfl rfl).1
 have e:a.eval X= .map (some bm):=by simpa using e0
 have hne:bm≠w.heap.size:=Nat.ne_of_lt hb
 refine does_run (v:=.pointer (some ⟨w.heap.size,0,none⟩)) (w':=w.alloc (.mapIter (some bm) clock #[] clock)) (by unfold execOp;simp[ho,e,run_range_map w T K E bm es clock u1 hg]) (c.fresh (u:=.pointer (some ⟨w.heap.size,0,none⟩)) (below_alloc _) ?_ ?_ ?_)
 ·intro b hb
  simp only[blk,Option.some.injEq] at hb;subst hb
  rw[size_alloc];omega
 ·intro hl
  refine ⟨w.heap.size,by simp,c.hok.bz,bm,clock,#[],clock,es,clock,heap_alloc_new w _,by rw[size_alloc];omega,?_,by rw[heap_alloc_old w _ hb];exact hg,hst,hst.1,Nat.le_refl _,Nat.le_refl _,?_,hval,fun p hp=>by cases hp⟩
  ·rintro (q|⟨l',ob',q1,q2⟩)
   ·exact hm (.inl q)
   ·by_cases hf:l'=fr
    ·subst hf
     rw[upd'_same] at q2
     simp only[blk,Option.some.injEq] at q2
     omega
    ·rw[putHp_other _ _ hf] at q1
     rw[upd'_other _ _ hf] at q2
     exact hm (.inr ⟨l',ob',q1,q2⟩)
  ·rw[leftOf_none];exact hes
 ·intro _ ob _
  exact ⟨w.heap.size,by simp,rfl⟩
theorem entry_ok {X:Operand} {l:Nat} {k:IntKind} {t:Ty} {left:List (Int×t.den)} {p:Int×t.den} (ho:o.op= .entry X) (hlh:∀l ob,lh l=some ob→hp l=some ob)
  (hX:AVR P hp ψ w (Mu M hp ψ) (.ptr l 0) (a.eval X)) (h1:lh l=some (.it k t left (some p))) (c:Ctx P B M hp ψ w fr):Does P o a w (OpPost P B M hp ψ w fr (pur (.tup [.val (.int k) p.1,.val t p.2]))):=by
 have hl:=hlh _ _ h1
 obtain ⟨b,e,hB,bm,since,seen,c0,es,clock,q1,q2,q3,q4,q5,q6,q7,q8,q9,q10,q11⟩:=c.hok.ob l _ hl
 obtain ⟨⟨hk,hv⟩,seen',x,rfl,rfl,hx,ek,ev⟩:=q11 p rfl
 obtain ⟨b',e1,e2⟩:=hX _ hl
 rw[e] at e1
 simp only[Value.pointer.injEq,Option.some.injEq,Addr.mk.injEq,and_true] at e1
 subst e1
 have run:=run_entry_at (P:=P) w b bm since seen' es c0 x q1 q4 hx q5.2.1
 refine does_run (v:=.tuple #[x.key,x.val]) (w':=w) (by unfold execOp;simp[ho,e2,run]) (c.pure ?_)
 rw[ek,ev]
 exact ⟨_,rfl,_,_,rfl,int_avr hk,_,_,rfl,mval_rd hv,rfl⟩
theorem next_ok {X:Operand} {l:Nat} {k:IntKind} {t:Ty} {left:List (Int×t.den)} {cur:Option (Int×t.den)} (ho:o.op= .next X false)
  (hX:AVR P hp ψ w (Mu M hp ψ) (.ptr l 0) (a.eval X)) (hl:hp l=some (.it k t left cur)) (c:Ctx P B M hp ψ w fr):Does P o a w fun v w'=>
   (left=[]∧OpPost P B M hp ψ w fr (pur (.tup [.val .bool false])) v w')∨
   ∃i p,left[i]?=some p∧OpPost P B M hp ψ w fr ⟨.tup [.val .bool true,.val (.int k) p.1,.val t p.2],[],some (l,.it k t (left.eraseIdx i) (some p))⟩ v w':=by
 obtain ⟨b,e,hB,bm,since,seen,c0,es,clock,q1,q2,q3,q4,q5,q6,q7,q8,q9,q10,q11⟩:=c.hok.ob l _ hl
 obtain ⟨b',e1,e2⟩:=hX _ hl
 rw[e] at e1
 simp only[Value.pointer.injEq,Option.some.injEq,Addr.mk.injEq,and_true] at e1
 subst e1
 rcases run_next_at (P:=P) w o.type b bm since c0 seen es clock q1 q4 q6 q7 with ⟨h0,run⟩|⟨x,hx,w1,hw1,run⟩
 ·have hl0:left=[]:=by
   have:((leftOf es seen).toList.map fun x=>(x.key,x.val)).length=left.length:=by rw[q9,List.length_map]
   rw[List.length_map,Array.length_toList,h0] at this;exact List.eq_nil_of_length_eq_zero this.symm
  exact does_run (v:=.tuple #[.bool false]) (w':=w) (by unfold execOp;simp[ho,e2,run]) (.inl ⟨hl0,c.pure ⟨_,rfl,_,_,rfl,bool_avr,rfl⟩⟩)
 ·obtain ⟨i,hi⟩:=List.getElem?_of_mem hx
  have hpi:∃p,left[i]?=some p∧x.key= .int k p.1∧x.val=mval t p.2:=by
   have h1:((leftOf es seen).toList.map fun x=>(x.key,x.val))[i]?=some (x.key,x.val):=by rw[List.getElem?_map,hi];rfl
   rw[q9,List.getElem?_map] at h1;obtain ⟨p,hp',e3⟩:=Option.map_eq_some_iff.1 h1;simp only[Prod.mk.injEq] at e3;exact ⟨p,hp',e3.1.symm,e3.2.symm⟩
  obtain ⟨p,hp',ek,ev⟩:=hpi
  have hok:=q10 p (List.mem_of_getElem? hp')
  have hmem:=mem_left hx
  have hw:w1.os=w.os∧w1.tape=w.tape∧w1.output=w.output∧w1.heap=w.heap:=by rcases hw1 with rfl|rfl<;>exact ⟨rfl,rfl,rfl,rfl⟩
  have hbs:b<w.heap.size:=lt_of_block q1
  have hne:bm≠b:=fun q=>by rw[q,q1] at q4;cases q4
  have hhp:∀b2,b2≠b→(Go.ChangeMaps.setBlock w1 b (.mapIter (some bm) since (seen.push x.born) clock)).heap[b2]?=w.heap[b2]?:=fun b2 hb2=>by
   show (w1.heap.setIfInBounds b _)[b2]?=_;rw[Array.getElem?_setIfInBounds_ne (Ne.symm hb2),hw.2.2.2]
  have hhs:(Go.ChangeMaps.setBlock w1 b (.mapIter (some bm) since (seen.push x.born) clock)).heap[b]?=some (.mapIter (some bm) since (seen.push x.born) clock):=by
   show (w1.heap.setIfInBounds b _)[b]?=_;rw[hw.2.2.2];simp[hbs]
  have hsz:(Go.ChangeMaps.setBlock w1 b (.mapIter (some bm) since (seen.push x.born) clock)).heap.size=w.heap.size:=by
   show (w1.heap.setIfInBounds b _).size=_;rw[Array.size_setIfInBounds,hw.2.2.2]
  refine does_run (v:=.tuple #[.bool true,x.key,x.val]) (w':=Go.ChangeMaps.setBlock w1 b (.mapIter (some bm) since (seen.push x.born) clock)) (by unfold execOp;simp[ho,e2,run]) (.inr ⟨i,p,hp',c.write hl ⟨rfl,rfl⟩ (by simp) hw.1 hw.2.1 hw.2.2.1 (by rw[hsz];exact Nat.le_refl _) (fun b2 hb2 hne2=>?_) (fun hlt=>?_) (fun _=>?_)⟩)
  ·exact hhp b2 fun q=>hne2 (by rw[e,q];rfl)
  ·have hnm:¬Mu M (putHp (kill hp []) l (.it k t (left.eraseIdx i) (some p))) ψ bm:=fun q=>q3 (hlt.sub bm q2 q)
   refine ⟨b,e,hB,bm,since,seen.push x.born,clock,es,clock,hhs,by rw[hsz];exact q2,hnm,by rw[hhp bm hne];exact q4,q5,q6,q8,q8,?_,fun z hz=>q10 z (List.mem_of_mem_eraseIdx hz),fun z hz=>?_⟩
   ·have hn:((leftOf es seen).toList.map (·.born)).Nodup:=by
     unfold leftOf;rw[Array.toList_filter];exact (List.filter_sublist.map _).nodup q5.2.1
    rw[left_push,filter_erase hn hi,List.eraseIdx_eq_take_drop_succ,List.eraseIdx_eq_take_drop_succ,List.map_append,List.map_append,List.map_take,List.map_drop,List.map_take,List.map_drop,q9]
   ·injection hz with hz
    subst hz
    exact ⟨hok,seen,x,rfl,rfl,hmem.1,ek,ev⟩
  ·rw[ek,ev]
   exact ⟨_,rfl,_,_,rfl,bool_avr,_,_,rfl,int_avr hok.1,_,_,rfl,mval_rd hok.2,rfl⟩
end
end T
end Go.Proofs.YtpocfbfmjippnaaGreat
end
section
namespace Go.Proofs.YtpocfbfmjippnaaGreat
open Go.RowKit
namespace T
section
variable {P:Program} {B:Nat} {M:Nat→Prop} {hp lh:Hp} {ψ:Nat→Value} {w w':World} {fr:Nat} {C:List Ent} {o:Oper} {a:Act}
theorem zip_parts (f:Operand→Value):∀parts:List (Nat×Operand),(parts.map (·.1)).zip ((parts.map (·.2)).map f)=parts.map fun x=>(x.1,f x.2)
 |[]=>rfl
 |p::r=>by simpa using zip_parts f r
theorem places_at:∀(fs:List Field) (places:List (Nat×Nat)),fs.mapM (fun f=>(P.info? f.type).map fun i=>(f.offset,i.size))=some places→
  ∀(i:Nat) (x:Field) (s:Nat),fs[i]?=some x→(P.info? x.type).map (·.size)=some s→places[i]?=some (x.offset,s)
 |[],places,h,i,x,s,h1,h2=>by simp at h1
 |f::fs,places,h,i,x,s,h1,h2=>by
  simp only[List.mapM_cons,Option.bind_eq_bind,Option.pure_def] at h;cases hi:P.info? f.type with
  |none=>simp[hi] at h
  |some it=>
   cases hr:fs.mapM (fun f=>(P.info? f.type).map fun i=>(f.offset,i.size)) with
   |none=>simp[hi,hr] at h
   |some rest=>
    simp[hi,hr] at h;subst h;cases i with
    |zero=>simp at h1;subst h1;simp[hi] at h2;simp[h2]
    |succ i=>simpa using places_at fs rest hr i x s (by simpa using h1) h2
theorem build_ok {T:TypeId} {t:Ty} {parts:Array (Nat×Operand)} {ps:List (Nat×Ty)} {avs cs:List AV} (ho:o.op= .build T parts) (hp1:partsOk P T t parts.toList ps=true) (hp2:placesOk P T=true) (hz:zeroIs P T t=true)
  (hlh:∀l ob,lh l=some ob→hp l=some ob) (hv:AVRs P hp ψ w (Mu M hp ψ) avs ((parts.toList.map (·.2)).map a.eval)) (h:fillx lh (zeroAV t) ps avs=some cs) (c:Ctx P B M hp ψ w fr):
  Does P o a w (OpPost P B M hp ψ w fr (pur (.agg cs))):=by
 unfold placesOk at hp2
 split at hp2
 ·rename_i fs hu
  obtain ⟨places,hpl⟩:=Option.isSome_iff_exists.1 hp2
  obtain ⟨i,z,hi,hz',hrd,hav⟩:=zeroIs_avs hz
  obtain ⟨k1,k2⟩:=partsOk_spec hu parts.toList ps hp1
  obtain ⟨cells',r1,r2,r3⟩:=fill_ok c.hok hlh (fun x=>places.toArray[x]?) ps (parts.toList.map (·.1)) avs _ (zeroAV t) cs z.cells h hv (hav hp ψ w _) (hrd w (Mu M hp ψ)).one (by simpa using k1) (fun j i p q1 q2=>by
   obtain ⟨x,e1,e2,e3⟩:=k2 j i p q1 q2;have:=places_at fs.toList places hpl i x p.2.size (by simpa using e1) e3;rw[←e2];simpa using this)
  rw[zip_parts] at r1
  refine does_run ?_ (c.pure (av:=.agg cs) ⟨cells',rfl,r2,r3⟩)
  unfold execOp;simp only[ho]
  rw[Sem.run_bind,run_build w T _ cells' (by
   unfold Program.built;rw[hi,hu];simp only[hz',hpl];rw[←r1];simp)]
  rfl
 ·cases hp2
theorem rowfill_ok {t:Ty} (h0:HOK P B M hp ψ w) (hlh:∀l ob,lh l=some ob→hp l=some ob) {ls':List Nat}:∀(idx:List Nat) (avs:List AV) (vs:List Value) (xs xs':List t.den) (ls:List Nat) (cells:Array Value),
  rowx lh t xs idx avs=some (xs',ls)→(∀l∈ls,l∈ls')→AVRs P hp ψ w (Mu M hp ψ) avs vs→RowsBy (fun x c=>Rd P t w (Mu M (kill hp ls') ψ) x c) xs cells.toList→
  ∃cells',Instr.fill (fun i=>some (i*t.size,t.size)) cells (idx.zip vs)=some cells'∧RowsBy (fun x c=>Rd P t w (Mu M (kill hp ls') ψ) x c) xs' cells'.toList∧cells'.size=cells.size∧xs'.length=xs.length
 |[],avs,vs,xs,xs',ls,cells,h,hs,hv,hr=>by
  cases avs with
  |nil=>
   simp only[rowx,Option.some.injEq,Prod.mk.injEq] at h;obtain ⟨rfl,rfl⟩:=h;exact ⟨cells,by simp[Instr.fill],hr,rfl,rfl⟩
  |cons x r=>simp[rowx] at h
 |i::idx,avs,vs,xs,xs',ls,cells,h,hs,hv,hr=>by
  cases avs with
  |nil=>simp[rowx] at h
  |cons x r=>
   obtain ⟨v,vs',rfl,q1,q2⟩:=hv;simp only[rowx] at h;split at h
   ·rename_i hlt;split at h
    ·rename_i d l1 hd;obtain ⟨y,hy,e⟩:=Option.map_eq_some_iff.1 h;simp only[Prod.mk.injEq] at e;obtain ⟨rfl,rfl⟩:=e;have hdv:=rd_ok h0 hlh hd q1 (ls':=ls') (fun l hl=>hs l (List.mem_append_left _ hl));have hsz:v.cells.size=t.size:=by have:=hdv.2.len;simpa using this
     have hcl:=RowsBy.len (fun _ _ q=>q.len) hr;obtain ⟨c1,cc,c2,e0,r1,r2,r3⟩:=hr.at hlt;have hc1:c1.length=i*t.size:=by rw[RowsBy.len (fun _ _ q=>q.len) r1,List.length_take,Nat.min_eq_left (Nat.le_of_lt hlt)]
     have hcc:=r2.len;have hclen:cells.size=c1.length+cc.length+c2.length:=by
      have:cells.toList.length=(c1++cc++c2).length:=by rw[e0]
      simp at this;omega
     have hfold:((v.cells.zipIdx.foldl (fun (cs:Array Value) (x:Value×Nat)=>cs.setIfInBounds (i*t.size+x.2) x.1) cells)).toList=c1++v.cells.toList++c2:=by
      have:=foldl_set (i*t.size) v.cells.toList 0 cells (by simp;omega);rw[←Array.foldl_toList,Array.toList_zipIdx,this,e0];simp only[Nat.add_zero];rw[←hc1,List.append_assoc c1,List.take_left,show c1.length+v.cells.toList.length=c1.length+cc.length by simp;omega,←List.length_append,←List.append_assoc,List.drop_left]
     have hsize:(v.cells.zipIdx.foldl (fun (cs:Array Value) (x:Value×Nat)=>cs.setIfInBounds (i*t.size+x.2) x.1) cells).size=cells.size:=by
      have:(v.cells.zipIdx.foldl (fun (cs:Array Value) (x:Value×Nat)=>cs.setIfInBounds (i*t.size+x.2) x.1) cells).toList.length=_:=congrArg List.length hfold;simp only[Array.length_toList,List.length_append] at this;omega
     obtain ⟨cells',k1,k2,k3,k4⟩:=rowfill_ok h0 hlh idx r vs' (xs.set i d) y.1 y.2 (v.cells.zipIdx.foldl (fun (cs:Array Value) (x:Value×Nat)=>cs.setIfInBounds (i*t.size+x.2) x.1) cells) hy (fun l hl=>hs l (List.mem_append_right _ hl)) q2
      (by rw[hfold];exact RowsBy.set hlt r1 hdv.2 r3)
     refine ⟨cells',?_,k2,by rw[k3,hsize],by rw[k4];simp⟩;simp only[List.zip_cons_cons,Instr.fill];rw[if_neg (by simp;omega)];exact k1
    ·cases h
   ·cases h
theorem nnl_ok {T e:TypeId} {t:Ty} {parts:Array (Nat×Operand)} (ho:o.op= .buildSlice T 0 parts) (hn:parts= #[]) (hT:elemOk P T e t=true) (h0:t.size≠0) (c:Ctx P B M hp ψ w fr):
  Does P o a w (OpPost P B M hp ψ w fr ⟨.nnl,[],some (fr,.row e t [])⟩):=by
 subst hn
 obtain ⟨hu,i,hi,his⟩:=elemOk_spec hT
 refine does_run (v:=.slice (some ⟨w.heap.size,0,none⟩) 0 0) (w':=w.alloc (.cells #[] e)) ?_ ?_
 ·unfold execOp;simp only[ho]
  have h2:Array.map (fun x=>(default:Value)) (Array.range 0)= #[]:=by apply Array.ext';simp[Array.toList_range]
  simp[Instr.buildSlice,run_underlying hu,sizeOf,typeInfo,hi,newRow,Instr.fill]
  rw[h2]
 ·refine c.fresh (u:=.slice (some ⟨w.heap.size,0,none⟩) 0 0) (below_alloc _) ?_ (fun _=>?_) fun _=>⟨_,rfl⟩
  ·intro b hb
   simp only[blk,Option.some.injEq] at hb;subst hb
   rw[size_alloc];omega
  ·refine ⟨[],?_,rfl⟩
   rw[upd'_same]
   exact ⟨by simp,.inr ⟨w.heap.size,0,#[],rfl,c.hok.bz,heap_alloc_new w _,by simp,by simp[maxLen],by simp,by simp⟩⟩
theorem bslice_ok {T e:TypeId} {t:Ty} {n:Nat} {parts:Array (Nat×Operand)} {avs:List AV} {xs:List t.den} {ls:List Nat} (ho:o.op= .buildSlice T n parts) (hT:elemOk P T e t=true) (hz:zeroIs P e t=true) (h0:t.size≠0) (hn:n*t.size≤16777216)
  (hlh:∀l ob,lh l=some ob→hp l=some ob) (hv:AVRs P hp ψ w (Mu M hp ψ) avs ((parts.toList.map (·.2)).map a.eval)) (h:rowx lh t (List.replicate n t.dflt) (parts.toList.map (·.1)) avs=some (xs,ls)) (c:Ctx P B M hp ψ w fr):
  Does P o a w (OpPost P B M hp ψ w fr ⟨.own fr,ls,some (fr,.row e t xs)⟩):=by
 obtain ⟨hu,i,hi,his⟩:=elemOk_spec hT
 obtain ⟨i',z,hi',hz',hrd⟩:=zeroIs_spec hz
 rw[hi] at hi';injection hi' with hi';subst hi'
 have hzs:z.cells.size=t.size:=by have:=(hrd w (fun _=>False)).len;simpa using this
 have hmade:(madeCells z.cells (n*t.size)).toList=(List.replicate n z.cells.toList).flatten:=by rw[←hzs];exact made_rows _ _
 obtain ⟨cells',k1,k2,k3,k4⟩:=rowfill_ok c.hok hlh (ls':=ls) _ avs _ (List.replicate n t.dflt) xs ls (madeCells z.cells (n*t.size)) h (fun _ h=>h) hv (by rw[hmade];exact rows_rep (hrd w _) _)
 rw[zip_parts] at k1
 have hxl:xs.length=n:=by rw[k4];simp
 refine does_run (v:=.slice (some ⟨w.heap.size,0,none⟩) n n) (w':=w.alloc (.cells cells' e)) ?_ ?_
 ·unfold execOp;simp only[ho]
  have hm:((Array.range (n*i.size)).map fun x=>z.cells[x % z.cells.size]!)=madeCells z.cells (n*t.size):=by rw[his];rfl
  have hf:Instr.fill (fun x=>some (x*i.size,i.size)) (madeCells z.cells (n*t.size)) (List.map (fun x=>(x.1,a.eval x.2)) parts.toList)=some cells':=by rw[his,←k1]
  by_cases hz0:n*i.size=0
  ·have hn0:n=0:=by
    rcases Nat.mul_eq_zero.1 hz0 with q|q
    ·exact q
    ·omega
   subst hn0
   simp[Instr.buildSlice,run_underlying hu,sizeOf,typeInfo,hi,newRow]
   have:madeCells z.cells (0*t.size)= #[]:=by simp[madeCells]
   rw[this] at hf
   have h2:Array.map (fun x=>(default:Value)) (Array.range 0)= #[]:=by apply Array.ext';simp[Array.toList_range]
   rw[h2,hf]
   rfl
  ·have hgt:¬(16777216<n*i.size):=by rw[his];omega
   simp[Instr.buildSlice,run_underlying hu,sizeOf,typeInfo,zeroValue,hi,hz',hz0,hgt,newRow]
   rw[hm,hf]
   rfl
 ·refine new_row (cells:=cells'.toList) c (below_alloc _) ⟨by simp[k3,size_madeCells,hxl],.inr ⟨w.heap.size,n,cells',by rw[hxl],Nat.le_refl _,heap_alloc_new w _,by omega,?_,by rw[k3,size_madeCells],?_⟩⟩ ?_
  ·have:n≤n*t.size:=Nat.le_mul_of_pos_right _ (by omega)
   simp[maxLen];omega
  ·rw[List.take_of_length_le]
   simp[k3,size_madeCells,hxl]
  ·intro hl
   refine k2.mono fun x _ cc q=>q.later ⟨hl.size,fun b hb hm=>?_,fun b hb q=>?_,hl.bound⟩
   ·exact Below.heap_alloc _ _ _ hb
   ·rcases q with q|⟨l,ob,q1,q2⟩
    ·exact .inl q
    ·by_cases el:l=fr
     ·subst el;rw[upd'_same] at q2;simp only[blk,Option.some.injEq] at q2;omega
     ·rw[putHp_other _ _ el] at q1;rw[upd'_other _ _ el] at q2
      exact .inr ⟨l,ob,q1,q2⟩
end
end T
end Go.Proofs.YtpocfbfmjippnaaGreat
end
section
namespace Go.Proofs.YtpocfbfmjippnaaGreat
open Go.RowKit
namespace T
def Near (w:World) (v v':Value):Prop:=v'.ownBlock=v.ownBlock∨∃g,v'.ownBlock=some g∧w.heap.size≤g
section
variable {P:Program} {w:World}
theorem append_near (base:Nat) (t ty e:TypeId) (i:TypeInfo) (z:Value) (size bytes:Nat) (ht:P.underlying t=some (.slice e)) (hi:P.info? e=some i) (hz:i.zero=some z)
  (hsize:i.size=size) (hby:i.bytes=bytes) (hzs:z.cells.size=size) (hsz:0<size)
  (v:Value) (n:Nat) (xs:List Value) (hown:w.ownsRow base e size v n xs)
  (a:Addr) (m c:Nat) (news:List Value) (hl:news.length=m*size) (hnews:∀j u,news[j]?=some u→w.cell? (a.add j)=some u) (h1:∀u∈news,u.oneCell'=true)
  (h63:n+m≤maxLen) (hbytes:(n+m)*bytes≤140737488355328) (hbase:base≤w.heap.size):
  ∃v' w',(Builtin.append_ #[t,t] ty #[v,.slice (some a) m c]).run P w= .ok v' w'∧w'.ownsRow base e size v' (n+m) (xs++news)∧w.grownBy w' v.ownBlock∧Near w v v':=by
 obtain ⟨v',w',hr,k2,k3,k4⟩:=run_append_own (P:=P) w base t ty e i z size bytes ht hi hz hsize hby hzs hsz v n xs hown a m c news hl hnews h1 h63 hbytes hbase
 refine ⟨v',w',hr,k2,k3,?_⟩
 have hs:n+m≤9223372036854775807:=by simp only[maxLen] at h63;omega
 rcases hown.2 with ⟨rfl,rfl⟩|⟨g,cap,cur,rfl,_,hg,hnc,_,hcs,_⟩
 ·by_cases hm:m=0
  ·exact .inl (by rw[(k4.2 ⟨rfl,hm⟩)])
  ·have q:=run_append_nil (P:=P) w t ty e i z ht hi hz a m c news (by rw[hl,hsize]) hnews (by omega) (by omega) (by rw[hby];have hb:=hbytes;simp only[Nat.zero_add] at hb;omega)
   rw[q] at hr
   injection hr with h5
   exact .inr ⟨_,by rw[←h5];rfl,Nat.le_refl _⟩
 ·by_cases hroom:n+m≤cap
  ·have q:=run_append_room (P:=P) w t ty e i ht hi g n cap cur hg a m c news (by rw[hl,hsize]) hnews h1 hroom (by rw[hl,hsize,hcs,←Nat.add_mul];exact Nat.mul_le_mul_right _ hroom)
   rw[q] at hr
   injection hr with h5
   exact .inl (by rw[←h5];rfl)
  ·have holds:∀j u,xs[j]?=some u→w.cell? ((⟨g,0,none⟩:Addr).add j)=some u:=hown.cells (g:=g) rfl
   have q:=run_append_grow (P:=P) w t ty e i z ht hi hz ⟨g,0,none⟩ n cap xs (by rw[hsize];exact hown.1) holds a m c news (by rw[hl,hsize]) hnews (by omega) (by omega) (by rw[hby];exact growslice_fits (by omega) hbytes)
   rw[q] at hr
   injection hr with h5
   exact .inr ⟨_,by rw[←h5];rfl,Nat.le_refl _⟩
theorem append_nilsrc (base:Nat) (t ty e:TypeId) (i:TypeInfo) (size:Nat) (ht:P.underlying t=some (.slice e)) (hi:P.info? e=some i) (v:Value) (n c:Nat) (xs:List Value) (hown:w.ownsRow base e size v n xs):
  (Builtin.append_ #[t,t] ty #[v,.slice none 0 c]).run P w= .ok v w:=by
 rcases hown.2 with ⟨rfl,rfl⟩|⟨g,cap,cur,rfl,_,hg,hnc,_⟩
 ·simp[Builtin.append_,run_underlying ht,sizeOf,typeInfo,hi,Builtin.lenOf,Builtin.firstCells]
 ·simp[Builtin.append_,run_underlying ht,sizeOf,typeInfo,hi,Builtin.lenOf,Builtin.firstCells,hnc,storeCells]
end
section
variable {P:Program} {B:Nat} {M:Nat→Prop} {hp lh:Hp} {ψ:Nat→Value} {w w':World} {fr:Nat} {C:List Ent} {o:Oper} {a:Act}
theorem blk_own {v:Value} {A:Option Addr} {n c:Nat} (h:v= .slice A n c):blk v=v.ownBlock:=by subst h;cases A<;>rfl
theorem ownsRow_slice {e:TypeId} {s:Nat} {v:Value} {n:Nat} {xs:List Value} (h:w.ownsRow B e s v n xs):∃A c,v= .slice A n c:=by
 rcases h.2 with ⟨rfl,rfl⟩|⟨g,cap,cur,rfl,_⟩
 ·exact ⟨_,_,rfl⟩
 ·exact ⟨_,_,rfl⟩
theorem RowsBy.takes {α:Type} {R:α→List Value→Prop} {n:Nat} (hR:∀x c,R x c→c.length=n) {xs:List α} {cs:List Value} (h:RowsBy R xs cs) {m:Nat} (hm:m≤xs.length):RowsBy R (xs.take m) (cs.take (m*n))∧RowsBy R (xs.drop m) (cs.drop (m*n)):=by
 rw[←List.take_append_drop m xs] at h;obtain ⟨c1,c2,rfl,h1,h2⟩:=h.split;have hl:c1.length=m*n:=by rw[RowsBy.len hR h1,List.length_take,Nat.min_eq_left hm]
 rw[←hl,List.take_left',List.drop_left' rfl]
 ·exact ⟨h1,h2⟩
 ·rfl
theorem RowsBy.seg {α:Type} {R:α→List Value→Prop} {n:Nat} (hR:∀x c,R x c→c.length=n) {xs:List α} {cs:List Value} (h:RowsBy R xs cs) (lo hi:Nat) (hlo:lo≤hi) (hm:hi≤xs.length):RowsBy R ((xs.take hi).drop lo) ((cs.take (hi*n)).drop (lo*n)):=
 (RowsBy.takes hR (RowsBy.takes hR h hm).1 (by rw[List.length_take];omega)).2
theorem src_ok (h0:HOK P B M hp ψ w) (hlh:∀l ob,lh l=some ob→hp l=some ob) {t:Ty} {x:AV} {ys:List t.den} (h:srcx lh t x=some ys) {v:Value} (hX:AVR P hp ψ w (Mu M hp ψ) x v):
  (∃c,v= .slice none 0 c∧ys=[])∨∃ad c cells,v= .slice (some ad) ys.length c∧(∀j u,cells[j]?=some u→w.cell? (ad.add j)=some u)∧RowsBy (fun x c=>Rd P t w (Mu M hp ψ) x c) ys cells:=by
 have cast_sl:∀{t':Ty} {xs:List t'.den} {ys:List t.den},cast? (.sl t) (.sl t') xs=some ys→∀{cells:List Value},RowsBy (fun x c=>Rd P t' w (Mu M hp ψ) x c) xs cells→ys.length=xs.length∧RowsBy (fun x c=>Rd P t w (Mu M hp ψ) x c) ys cells:=by
  intro t' xs ys hc cells hr;obtain ⟨q,q'⟩:=cast?_some hc;injection q with q;subst q;simp only at q';subst q';exact ⟨rfl,hr⟩
 have nil_sl:∀{t':Ty} {xs:List t'.den} {ys:List t.den},cast? (.sl t) (.sl t') xs=some ys→xs.length=0→ys=[]:=by
  intro t' xs ys hc hr;obtain ⟨q,q'⟩:=cast?_some hc;injection q with q;subst q;simp only at q';subst q';exact List.eq_nil_of_length_eq_zero hr
 unfold srcx at h
 split at h
 ·rename_i l
  split at h
  ·rename_i e t' xs hl
   have hl':=hlh _ _ hl
   obtain rfl:=hX _ hl'
   obtain ⟨cells,hown,hrow⟩:=h0.ob l _ hl'
   obtain ⟨k1,k2⟩:=cast_sl h hrow
   rcases id hown.2 with ⟨q,q'⟩|⟨g,cap,cur,q,_⟩
   ·exact .inl ⟨0,q,nil_sl h q'⟩
   ·exact .inr ⟨⟨g,0,none⟩,cap,cells,by rw[k1,q],fun j u hj=>hown.cells (g:=g) (by rw[q];rfl) j u hj,k2⟩
  ·cases h
 ·rename_i t' xs
  obtain ⟨A,n,c,e1,e2,e3,e4,e5⟩:=(RdV.one (t:=.sl t') hX rfl rfl).1
  simp only[List.cons.injEq,and_true] at e1
  rcases e5 with e5|⟨b,off,cc,rfl,h1,h2,h3,h4⟩
  ·have hy:=nil_sl h (by omega)
   subst hy
   rcases A with _|ad
   ·exact .inl ⟨c,by rw[e1,e5],rfl⟩
   ·exact .inr ⟨ad,c,[],by rw[e1,e5];rfl,fun j u hj=>by simp at hj,rfl⟩
  ·obtain ⟨k1,k2⟩:=cast_sl h h4
   exact .inr ⟨⟨b,off,none⟩,c,cc,by rw[e1,k1,e2],fun j u hj=>by rw[Addr.add_mid];exact h3 j u hj,k2⟩
 ·injection h with h;subst h
  obtain rfl:v=_:=hX
  exact .inl ⟨0,rfl,rfl⟩
 ·injection h with h;subst h
  obtain ⟨A,rfl⟩:=hX
  exact .inr ⟨A,0,[],rfl,fun j u hj=>by simp at hj,rfl⟩
 ·rename_i l lo hi
  split at h
  ·rename_i e t' xs hl
   obtain ⟨zs,hz,rfl⟩:=Option.map_eq_some_iff.1 h
   obtain ⟨q,q'⟩:=cast?_some hz
   injection q with q;subst q
   simp only at q';subst q'
   have hl':=hlh _ _ hl
   obtain ⟨hlo,A,n,c,eψ,hn,ev⟩:=hX _ _ _ hl'
   obtain ⟨cells,hown,hrow⟩:=h0.ob l _ hl'
   have hxn:xs.length=n:=by
    rcases hown.2 with ⟨q,q2⟩|⟨g,cap,cur,q,_⟩
    ·rw[eψ] at q;injection q with _ q _;rw[q2,q]
    ·rw[eψ] at q;injection q with _ q _;exact q.symm
   have hlen:((xs.take hi).drop lo).length=hi-lo:=by simp;omega
   rcases hown.2 with ⟨q,q2⟩|⟨g,cap,cur,q,hB,hg,hnc,hcm,hcs,ht⟩
   ·rw[eψ] at q
    injection q with qa qn qc
    refine .inl ⟨c-lo,?_,List.eq_nil_of_length_eq_zero (by rw[hlen];omega)⟩
    rw[ev,qa];unfold sliced
    simp only[Option.map_none,ite_self]
    rw[show hi-lo=0 by omega]
   ·rw[eψ] at q
    injection q with qa qn qc
    have hcl:cells.length=xs.length*t'.size:=hown.1
    refine .inr ⟨if c=lo then ⟨g,0,none⟩ else (⟨g,0,none⟩:Addr).add (lo*t'.size),c-lo,(cells.take (hi*t'.size)).drop (lo*t'.size),?_,fun j u hj=>?_,?_⟩
    ·rw[hlen,ev,qa];unfold sliced
     split<;>rfl
    ·rw[List.getElem?_drop,List.getElem?_take] at hj
     split at hj
     ·rename_i hlt
      have hc2:¬c=lo:=fun e=>by
       have:lo*t'.size=hi*t'.size:=by rw[show lo=hi by omega]
       omega
      rw[if_neg hc2,show ((⟨g,0,none⟩:Addr).add (lo*t'.size)).add j=(⟨g,0,none⟩:Addr).add (lo*t'.size+j) by simp[Addr.add_mid,Nat.add_assoc]]
      exact hown.cells (g:=g) (by rw[eψ,qa];rfl) _ _ hj
     ·cases hj
    ·have:=RowsBy.seg (n:=t'.size) (fun _ _ q=>q.len) hrow lo hi hlo (by omega)
     exact this
  ·cases h
 ·cases h
theorem append_ok {T e:TypeId} {t:Ty} {bytes:Nat} {X Y:Operand} {x y:AV} {p:Prop} {eff:Eff} (ho:o.op= .call ⟨.builtin .append,#[X,Y],#[T,T]⟩) (hT:elemOk P T e t=true) (hz:zeroIs P e t=true) (hb:(P.info? e).map (·.bytes)=some bytes) (hb0:bytes≠0) (hs0:t.size≠0)
  (hlh:∀l ob,lh l=some ob→hp l=some ob) (hX:AVR P hp ψ w (Mu M hp ψ) x (a.eval X)) (hY:AVR P hp ψ w (Mu M hp ψ) y (a.eval Y)) (h:appendx lh fr e t bytes x y=some (p,eff)) (hp':p) (c:Ctx P B M hp ψ w fr):
  Does P o a w (OpPost P B M hp ψ w fr eff):=by
 obtain ⟨hu,i,hi,his⟩:=elemOk_spec hT
 obtain ⟨i',z,hi',hz',hrd⟩:=zeroIs_spec hz
 rw[hi] at hi';injection hi' with hi';subst hi'
 rw[hi] at hb
 simp only[Option.map_some,Option.some.injEq] at hb
 have hzs:z.cells.size=t.size:=by have:=(hrd w (fun _=>False)).len;simpa using this
 have hex:∀v' w',(Builtin.append_ #[T,T] o.type #[a.eval X,a.eval Y]).run P w= .ok v' w'→(execOp a.eval o).run P w= .ok (.value v') w':=by
  intro v' w' hr;unfold execOp;simp only[ho];simp[resolve,invoke,builtin,hr]
 have main:∀(ks:List Nat) (xs ys:List t.den) (cells:List Value),srcx lh t y=some ys→w.ownsRow B e t.size (a.eval X) xs.length cells→RowsBy (fun x c=>Rd P t w (Mu M hp ψ) x c) xs cells→(xs.length+ys.length)*bytes≤140737488355328→
   (∀b,blk (a.eval X)=some b→∃l0∈ks,∃ob0,hp l0=some ob0∧blk (ψ l0)=some b)→Does P o a w (OpPost P B M hp ψ w fr ⟨.own fr,ks,some (fr,.row e t (xs++ys))⟩):=by
  intro ks xs ys cells hsrc hown hrow hbd hks
  rcases src_ok c.hok hlh hsrc hY with ⟨cp,ev,rfl⟩|⟨ad,cp,news,ev,hn,hnr⟩
  ·have hr:=append_nilsrc (P:=P) B T o.type e i t.size hu hi (a.eval X) xs.length cp cells hown
   refine does_run (hex _ _ (by rw[ev];exact hr)) ?_
   rw[List.append_nil]
   refine c.news (u:=a.eval X) rfl rfl rfl (Nat.le_refl _) (fun _ _ _=>rfl) (fun b hb=>.inr (hks b hb)) (fun hl=>⟨cells,by rw[upd'_same];exact hown,hrow.mono fun _ _ _ q=>q.later hl⟩) (fun _ ob _=>by simp)
  ·have hnl:news.length=ys.length*t.size:=RowsBy.len (fun _ _ q=>q.len) hnr
   have hml:xs.length+ys.length≤maxLen:=by
    have:(xs.length+ys.length)*1≤(xs.length+ys.length)*bytes:=Nat.mul_le_mul_left _ (by omega);simp[maxLen];omega
   have hone:∀u∈news,u.oneCell'=true:=by
    have key:∀{zs:List t.den} {cs:List Value},RowsBy (fun x c=>Rd P t w (Mu M hp ψ) x c) zs cs→∀u∈cs,u.oneCell'=true:=by
     intro zs;induction zs with
     |nil=>intro cs h u hu;obtain rfl:cs=[]:=h;simp at hu
     |cons z r ih=>
      rintro cs ⟨c1,c2,rfl,q1,q2⟩ u hu;rcases List.mem_append.1 hu with hu|hu
      ·exact Rd.one q1 u hu
      ·exact ih q2 u hu
    exact key hnr
   obtain ⟨v',w',hr,k1,k2,k3⟩:=append_near (P:=P) (w:=w) B T o.type e i z t.size bytes hu hi hz' his hb hzs (by omega) (a.eval X) xs.length cells hown ad ys.length cp news hnl hn hone hml hbd c.hok.bz
   refine does_run (hex _ _ (by rw[ev];exact hr)) ?_
   obtain ⟨A,cX,eX⟩:=ownsRow_slice hown
   obtain ⟨A',cX',eX'⟩:=ownsRow_slice k1
   refine c.news (u:=v') k2.os k2.tape k2.output k2.size (fun b hb hne=>k2.block b hb fun eb=>?_) (fun b hb=>?_) (fun hl=>⟨cells++news,by rw[upd'_same,List.length_append];exact k1,?_⟩) (fun _ ob _=>by simp)
   ·obtain ⟨l0,q1,ob0,q2,q3⟩:=hks b (by rw[blk_own eX];exact eb.symm)
    exact hne l0 q1 ob0 q2 q3
   ·rw[blk_own eX'] at hb
    rcases k3 with k3|⟨g,k3,k4⟩
    ·right
     exact hks b (by rw[blk_own eX,←k3];exact hb)
    ·left
     rw[k3] at hb;injection hb with hb;subst hb
     exact ⟨k4,(ownsRow_blk k1 (by rw[blk_own eX',k3])).2⟩
   ·exact (hrow.mono fun _ _ _ q=>q.later hl).append (hnr.mono fun _ _ _ q=>q.later hl)
 unfold appendx at h
 split at h
 ·cases h
 ·rename_i ys hsrc
  split at h
  ·rename_i l
   split at h
   ·rename_i e' t' xs0 hl
    split at h
    ·rename_i ee;subst ee
     obtain ⟨xs,hxs,e1⟩:=Option.map_eq_some_iff.1 h
     simp only[Prod.mk.injEq] at e1
     obtain ⟨rfl,rfl⟩:=e1
     obtain ⟨q,q'⟩:=cast?_some hxs
     injection q with q;subst q
     simp only at q';subst q'
     have hl':=hlh _ _ hl
     have eX:=hX _ hl'
     obtain ⟨cells,hown,hrow⟩:=c.hok.ob l _ hl'
     exact main [l] xs0 ys cells hsrc (by rw[eX];exact hown) hrow hp' (fun b hb=>⟨l,by simp,_,hl',by rw[←eX];exact hb⟩)
    ·cases h
   ·cases h
  ·simp only[Option.some.injEq,Prod.mk.injEq] at h
   obtain ⟨rfl,rfl⟩:=h
   have eX:a.eval X= .slice none 0 0:=hX
   have:=main [] [] ys [] hsrc (by rw[eX];exact ⟨by simp,.inl ⟨rfl,rfl⟩⟩) rfl (by simpa using hp') (fun b hb=>by rw[eX] at hb;simp[blk] at hb)
   simpa using this
  ·cases h
theorem rows_cast {α:Type} {R:α→List Value→Prop} {xs ys:List α} {cs:List Value} (e:xs=ys) (h:RowsBy R xs cs):RowsBy R ys cs:=e▸h
theorem take_at {α:Type} {l:List α} {n j:Nat} {v:α} (h:(l.take n)[j]?=some v):l[j]?=some v:=by
 rw[List.getElem?_take] at h;split at h
 ·exact h
 ·cases h
theorem rows_one {M':Nat→Prop} {t:Ty}:∀{zs:List t.den} {cs:List Value},RowsBy (fun x c=>Rd P t w M' x c) zs cs→∀u∈cs,u.oneCell'=true
 |[],cs,h,u,hu=>by obtain rfl:cs=[]:=h;simp at hu
 |z::r,_,⟨c1,c2,rfl,q1,q2⟩,u,hu=>by
  rcases List.mem_append.1 hu with hu|hu
  ·exact Rd.one q1 u hu
  ·exact rows_one q2 u hu
theorem run_copy_sized {T T' ty e:TypeId} {i:TypeInfo} {s:Nat} (hu:P.underlying T=some (.slice e)) (hi:P.info? e=some i) (his:i.size=s) {g o:Nat} {oc:Value→Value} {dLen dCap sLen sCap:Nat} {a:Addr} {cur:Array Value} {t:TypeId} {cs:List Value}
  (hg:w.heap[g]?=some (.cells cur t (0,0))) (hn:cs.length=Nat.min sLen dLen*s) (hsrc:∀j v,cs[j]?=some v→w.cell? (a.add j)=some v) (hfit:o+cs.length≤cur.size) (h1:∀v∈cs,v.oneCell'=true):
  (Builtin.copy_ #[T,T'] ty #[.slice (some ⟨g,o,none⟩) dLen dCap,.slice (some a) sLen sCap]).run P w=
   .ok (goInt (Nat.min sLen dLen:Nat)) (w.setRow g (cur.toList.take o++cs++cur.toList.drop (o+cs.length)).toArray):=by
 have hl:=run_loadCells_list (P:=P) w a cs hsrc
 have hst:=run_storeCells_at P g o t cs 0 cur w hg (by simpa using hfit) h1
 rw[hn] at hl
 simp[Builtin.copy_,run_underlying hu,Builtin.lenOf,Builtin.firstCells,sizeOf,typeInfo,hi,his,hl,hst]
theorem copy_none {T T' ty e:TypeId} {i:TypeInfo} (hu:P.underlying T=some (.slice e)) (hi:P.info? e=some i) {A A':Option Addr} {dLen dCap sLen sCap:Nat} (hn:Nat.min sLen dLen=0):
  (Builtin.copy_ #[T,T'] ty #[.slice A dLen dCap,.slice A' sLen sCap]).run P w= .ok (goInt 0) w:=by
 cases A' with
 |none=>cases A<;>simp[Builtin.copy_,run_underlying hu,Builtin.lenOf,Builtin.firstCells,sizeOf,typeInfo,hi,hn,storeCells]
 |some a=>
  have hl:=run_loadCells_list (P:=P) w a [] (fun j v h=>by simp at h)
  simp only[List.length_nil] at hl
  cases A<;>simp[Builtin.copy_,run_underlying hu,Builtin.lenOf,Builtin.firstCells,sizeOf,typeInfo,hi,hn,hl,storeCells]
theorem slicey_ok {T:TypeId} {t:Ty} {lo hi own:Bool} {X:Operand} {L H:Option Operand} {x:AV} {bs:List AV} {eff:Eff} {p:Prop} (ho:o.op= .slice T X L H none) (hT:elemIs P T t=true) (hlh:∀l ob,lh l=some ob→hp l=some ob)
  (hL:L.isSome=lo) (hH:H.isSome=hi) (hX:AVR P hp ψ w (Mu M hp ψ) x (a.eval X)) (hB:AVRs P hp ψ w (Mu M hp ψ) bs (L.toList.map a.eval++H.toList.map a.eval)) (h:slicey lh t lo hi own bs x=some (p,eff)) (hp':p) (c:Ctx P B M hp ψ w fr):Does P o a w (OpPost P B M hp ψ w fr eff):=by
 unfold slicey at h
 split at h
 ·unfold oslx at h
  split at h
  ·rename_i l
   split at h
   ·rename_i e0 t' xs hl
    split at h
    ·rename_i et;subst et
     split at h
     ·rename_i m k hb
      simp only[Option.some.injEq,Prod.mk.injEq] at h
      obtain ⟨rfl,rfl⟩:=h
      obtain ⟨e,hu,hinfo,hsz⟩:=elemIs_spec (w:=w) hT
      have hel:P.elem T=e:=by unfold Program.elem;rw[hu]
      have hu':P.underlying T=some (.slice (P.elem T)):=by rw[hel];exact hu
      have hl':=hlh _ _ hl
      have eX:=hX _ hl'
      obtain ⟨cells,hown,hrow⟩:=c.hok.ob l _ hl'
      have hsl:∃A cp,ψ l= .slice A xs.length cp∧xs.length≤cp:=by
       rcases hown.2 with ⟨q,q2⟩|⟨g,cap,cur,q,_,_,hnc,_⟩
       ·exact ⟨_,_,by rw[q,q2],by omega⟩
       ·exact ⟨_,_,q,hnc⟩
      obtain ⟨A,cp,eψ,hnc⟩:=hsl
      refine does_run (v:=sliced A m.toNat k.toNat cp t'.size) (w':=w) ?_ (c.pure (av:=.sub l m.toNat k.toNat) fun e2 t2 xs2 h2=>?_)
      ·unfold execOp;simp only[ho]
       have:=bounds_run (s:=t'.size) (A:=A) (n:=xs.length) (cp:=cp) hu' hel hsz hL hH hB hb (by omega) (by omega) (by omega) (by omega) rfl
       rw[←eψ,←eX,←run_sliceAt_slice w T _ _ _ _ hu'] at this
       simp[this]
      ·rw[hl'] at h2
       simp only[Option.some.injEq,OB.row.injEq] at h2
       obtain ⟨_,rfl,_⟩:=h2
       exact ⟨by omega,A,_,cp,eψ,by omega,rfl⟩
     ·cases h
    ·cases h
   ·cases h
  ·cases h
 ·exact slice_ok ho hT hlh hL hH hX hB h hp' c
theorem copy_ok {T e:TypeId} {t:Ty} {X Y:Operand} {x y:AV} {p:Prop} {eff:Eff} (ho:o.op= .call ⟨.builtin .copy,#[X,Y],#[T,T]⟩) (hT:elemOk P T e t=true) (hs0:t.size≠0)
  (hlh:∀l ob,lh l=some ob→hp l=some ob) (hX:AVR P hp ψ w (Mu M hp ψ) x (a.eval X)) (hY:AVR P hp ψ w (Mu M hp ψ) y (a.eval Y)) (h:copyx lh e t x y=some (p,eff)) (hp':p) (c:Ctx P B M hp ψ w fr):
  Does P o a w (OpPost P B M hp ψ w fr eff):=by
 obtain ⟨hu,i,hi,his⟩:=elemOk_spec hT
 have hex:∀v' w',(Builtin.copy_ #[T,T] o.type #[a.eval X,a.eval Y]).run P w= .ok v' w'→(execOp a.eval o).run P w= .ok (.value v') w':=by
  intro v' w' hr;unfold execOp;simp only[ho];simp[resolve,invoke,builtin,hr]
 have main:∀(l:Nat) (xs ys:List t.den) (lo hi:Nat) (A:Option Addr) (n cp:Nat),hp l=some (.row e t xs)→srcx lh t y=some ys→ψ l= .slice A n cp→lo≤hi→hi≤n→(∃cp',a.eval X= .slice (if cp=lo then A else A.map (·.add (lo*t.size))) (hi-lo) cp')→
   Does P o a w (OpPost P B M hp ψ w fr ⟨.val (.int .i64) ((min ys.length (hi-lo):Nat):Int),[],some (l,.row e t (xs.take lo++(ys.take (hi-lo)++xs.drop (lo+min ys.length (hi-lo)))))⟩):=by
  intro l xs ys lo hh A n cp hl hsrc eψ hlo hhn ⟨cp',eX⟩
  obtain ⟨cells,hown,hrow⟩:=c.hok.ob l _ hl
  have hxn:xs.length=n:=by
   rcases hown.2 with ⟨q,q2⟩|⟨g,cap,cur,q,_⟩
   ·rw[eψ] at q;injection q with _ q _;rw[q2,q]
   ·rw[eψ] at q;injection q with _ q _;exact q.symm
  have hcl:cells.length=xs.length*t.size:=hown.1
  have hav:∀{hp':Hp} {ψ':Nat→Value} {w':World} {M':Nat→Prop},hh≤maxLen→AVR P hp' ψ' w' M' (.val (.int .i64) ((min ys.length (hh-lo):Nat):Int)) (goInt (Nat.min ys.length (hh-lo):Nat)):=fun hm=>
   int_avr (by
    have h9:Nat.min ys.length (hh-lo)≤hh-lo:=Nat.min_le_right _ _;have h8:min ys.length (hh-lo)=Nat.min ys.length (hh-lo):=rfl;rw[h8];generalize Nat.min ys.length (hh-lo)=m at h9⊢;simp only[maxLen] at hm;show (-9223372036854775808:Int)≤_∧_≤(9223372036854775807:Int);omega)
  have hmx:hh≤maxLen:=by
   rcases hown.2 with ⟨q,q2⟩|⟨g,cap,cur,q,_,_,hnc,hcm,_⟩
   ·simp[maxLen];omega
   ·omega
  by_cases hz:Nat.min ys.length (hh-lo)=0
  ·have hk:∃A' sc,a.eval Y= .slice A' ys.length sc:=by
    rcases src_ok c.hok hlh hsrc hY with ⟨cpy,ev,rfl⟩|⟨ad,cpy,news,ev,_⟩
    ·exact ⟨none,cpy,ev⟩
    ·exact ⟨_,_,ev⟩
   obtain ⟨A',sc,eY⟩:=hk
   have hr:=copy_none (P:=P) (w:=w) (T':=T) (ty:=o.type) hu hi (A:=if cp=lo then A else A.map (·.add (lo*t.size))) (A':=A') (dCap:=cp') (sCap:=sc) hz
   refine does_run (hex _ _ (by rw[eX,eY];exact hr)) ?_
   have hz':min ys.length (hh-lo)=0:=hz
   have e1:ys.take (hh-lo)=[]:=by
    rw[List.take_eq_nil_iff];rcases Nat.le_total ys.length (hh-lo) with q|q
    ·right;exact List.eq_nil_of_length_eq_zero (by rw[Nat.min_eq_left q] at hz';exact hz')
    ·left;rw[Nat.min_eq_right q] at hz';exact hz'
   refine c.write (l:=l) hl (show t=t from rfl) (by simp) rfl rfl rfl (Nat.le_refl _) (fun _ _ _=>rfl) (fun hl'=>⟨cells,?_,?_⟩) (fun _=>?_)
   ·rw[hz',e1,List.nil_append,Nat.add_zero,List.take_append_drop];exact hown
   ·exact rows_cast (by rw[hz',e1,List.nil_append,Nat.add_zero,List.take_append_drop]) (hrow.mono fun _ _ _ q=>q.later hl')
   ·have e:goInt 0=goInt (Nat.min ys.length (hh-lo):Nat):=by rw[hz];rfl
    rw[e];exact hav hmx
  ·rcases hown.2 with ⟨q,q2⟩|⟨g,cap,cur,q,hB,hg,hnc,hcm,hcs,ht⟩
   ·exfalso
    have:Nat.min ys.length (hh-lo)≤hh-lo:=Nat.min_le_right _ _
    omega
   ·rw[eψ] at q
    injection q with qa qn qc
    rcases src_ok c.hok hlh hsrc hY with ⟨cpy,ev,rfl⟩|⟨ad,cpy,news,ev,hn,hnr⟩
    ·exact absurd (Nat.min_eq_zero_iff.2 (.inl rfl)) hz
    have hk0:0<hh-lo:=by
     rcases Nat.eq_zero_or_pos (hh-lo) with c|c
     ·exact absurd (Nat.min_eq_zero_iff.2 (.inr c)) hz
     ·exact c
    obtain ⟨k,hk⟩:∃k,k=Nat.min ys.length (hh-lo):=⟨_,rfl⟩
    have hk':min ys.length (hh-lo)=k:=hk.symm
    have k1:k≤ys.length:=by rw[hk];exact Nat.min_le_left _ _
    have k2:k≤hh-lo:=by rw[hk];exact Nat.min_le_right _ _
    have hcp:¬cp=lo:=by omega
    rw[if_neg hcp,qa] at eX
    simp only[Option.map_some] at eX
    have eadd:(⟨g,0,none⟩:Addr).add (lo*t.size)=⟨g,lo*t.size,none⟩:=by rw[Addr.add_mid,Nat.zero_add]
    rw[eadd] at eX
    obtain ⟨r1,r2⟩:=RowsBy.takes (n:=t.size) (fun _ _ q=>q.len) hnr k1
    have hnl:news.length=ys.length*t.size:=RowsBy.len (fun _ _ q=>q.len) hnr
    have hsl:(news.take (k*t.size)).length=k*t.size:=by
     rw[List.length_take,Nat.min_eq_left (by rw[hnl];exact Nat.mul_le_mul_right _ k1)]
    have hfit:lo*t.size+k*t.size≤cap*t.size:=by rw[←Nat.add_mul];exact Nat.mul_le_mul_right _ (by omega)
    have hr:=run_copy_sized (P:=P) (w:=w) (T':=T) (ty:=o.type) (oc:=id) hu hi his (o:=lo*t.size) (dLen:=hh-lo) (dCap:=cp') (sLen:=ys.length) (sCap:=cpy) (a:=ad) (cs:=news.take (k*t.size)) hg (by rw[hsl,hk])
     (fun j v hj=>hn j v (take_at hj)) (by rw[hsl,hcs];exact hfit) (fun v hv=>rows_one hnr v (List.mem_of_mem_take hv))
    refine does_run (hex _ _ (by rw[eX,ev];exact hr)) ?_
    rw[hk']
    have htk:ys.take (hh-lo)=ys.take k:=by
     rw[hk];rcases Nat.le_total ys.length (hh-lo) with q|q
     ·rw[show Nat.min ys.length (hh-lo)=ys.length from Nat.min_eq_left q,List.take_of_length_le q,List.take_of_length_le (Nat.le_refl _)]
     ·rw[show Nat.min ys.length (hh-lo)=hh-lo from Nat.min_eq_right q]
    rw[htk,hsl]
    have hxl:(xs.take lo++(ys.take k++xs.drop (lo+k))).length=xs.length:=by simp;omega
    have hkn:lo+k≤xs.length:=by omega
    have hcell:(cells.take (lo*t.size)++(news.take (k*t.size)++cells.drop ((lo+k)*t.size))).length=xs.length*t.size:=by
     have a1:lo*t.size≤xs.length*t.size:=Nat.mul_le_mul_right _ (by omega);have a2:(lo+k)*t.size≤xs.length*t.size:=Nat.mul_le_mul_right _ hkn;rw[Nat.add_mul] at a2;simp only[List.length_append,List.length_take,List.length_drop,hcl,hnl,Nat.add_mul];have a3:k*t.size≤ys.length*t.size:=Nat.mul_le_mul_right _ k1;omega
    refine c.write (l:=l) hl (show t=t from rfl) (by simp) rfl rfl rfl (by simp[World.setRow]) (fun b _ hne=>setRow_other _ _ _ _ fun e=>hne (by rw[eψ,qa,e];rfl)) (fun hl'=>⟨cells.take (lo*t.size)++(news.take (k*t.size)++cells.drop ((lo+k)*t.size)),⟨by rw[hxl,hcell],.inr ⟨g,cap,_,by rw[hxl,eψ,qa,←qc,hxn],hB,setRow_heap _ _ _ _ _ _ hg,by rw[hxl];exact hnc,hcm,?_,?_⟩⟩,?_⟩) (fun _=>?_)
    ·simp only[List.size_toArray,List.length_append,List.length_take,List.length_drop,Array.length_toList,hcs]
     have:k*t.size≤ys.length*t.size:=Nat.mul_le_mul_right _ k1
     rw[hnl]
     omega
    ·rw[hxl]
     have a2:(lo+k)*t.size≤xs.length*t.size:=Nat.mul_le_mul_right _ hkn
     have e2:=Nat.add_mul lo k t.size
     have hcur:cur.toList.length=cap*t.size:=by rw[Array.length_toList];exact hcs
     have hle:xs.length*t.size≤cap*t.size:=Nat.mul_le_mul_right _ hnc
     rw[←ht]
     apply List.ext_getElem?
     intro j
     simp only[List.append_assoc,List.getElem?_append,List.getElem?_take,List.getElem?_drop,List.length_take,hnl,hcur]
     have m1:min (lo*t.size) (cap*t.size)=lo*t.size:=Nat.min_eq_left (by omega)
     have m2:min (lo*t.size) (min (xs.length*t.size) (cap*t.size))=lo*t.size:=by omega
     have m3:min (k*t.size) (ys.length*t.size)=k*t.size:=Nat.min_eq_left (Nat.mul_le_mul_right _ k1)
     rw[m1,m2,m3]
     by_cases j1:j<lo*t.size
     ·have:j<xs.length*t.size:=by omega
      simp[j1,this]
     ·by_cases j2:j-lo*t.size<k*t.size
      ·have:j<xs.length*t.size:=by omega
       simp[j1,j2,this]
      ·by_cases j3:j<xs.length*t.size
       ·have j4:(lo+k)*t.size+(j-lo*t.size-k*t.size)<xs.length*t.size:=by omega
        simp only[j1,j2,j3,if_true,if_false,j4]
        congr 1
        omega
       ·have j4:¬(lo+k)*t.size+(j-lo*t.size-k*t.size)<xs.length*t.size:=by omega
        simp[j1,j2,j3,j4]
    ·obtain ⟨s1,s2⟩:=RowsBy.takes (n:=t.size) (fun _ _ q=>q.len) hrow (show lo≤xs.length by omega)
     obtain ⟨s3,s4⟩:=RowsBy.takes (n:=t.size) (fun _ _ q=>q.len) hrow hkn
     exact RowsBy.append (s1.mono fun _ _ _ q=>q.later hl') (RowsBy.append (r1.mono fun _ _ _ q=>q.later hl') (s4.mono fun _ _ _ q=>q.later hl'))
    ·have e:((k:Nat):Int)=((min ys.length (hh-lo):Nat):Int):=by rw[hk']
     rw[e];exact hav hmx
 unfold copyx at h
 split at h
 ·cases h
 ·rename_i ys hsrc
  split at h
  ·rename_i l
   split at h
   ·rename_i e' t' xs0 hl
    split at h
    ·rename_i ee;subst ee
     obtain ⟨xs,hxs,e1⟩:=Option.map_eq_some_iff.1 h
     simp only[Prod.mk.injEq] at e1
     obtain ⟨rfl,rfl⟩:=e1
     obtain ⟨q,q'⟩:=cast?_some hxs
     injection q with q;subst q
     simp only at q';subst q'
     have hl':=hlh _ _ hl
     have eX:=hX _ hl'
     obtain ⟨cells,hown,hrow⟩:=c.hok.ob l _ hl'
     obtain ⟨A,cp,eψ⟩:∃A cp,ψ l= .slice A xs0.length cp:=ownsRow_slice hown
     have:=main l xs0 ys 0 xs0.length A xs0.length cp hl' hsrc eψ (Nat.zero_le _) (Nat.le_refl _) ⟨cp,by rw[eX,eψ,Nat.sub_zero,Nat.zero_mul];cases A<;>simp[Addr.add]⟩
     simp only[List.take_zero,List.nil_append,Nat.sub_zero,Nat.zero_add] at this
     have e3:xs0.drop (min ys.length xs0.length)=xs0.drop ys.length:=by
      rcases Nat.le_total ys.length xs0.length with q|q
      ·rw[Nat.min_eq_left q]
      ·rw[Nat.min_eq_right q,List.drop_length,List.drop_eq_nil_of_le q]
     rw[e3] at this
     exact this
    ·cases h
   ·cases h
  ·rename_i l lo hh
   split at h
   ·rename_i e' t' xs0 hl
    split at h
    ·rename_i ee;subst ee
     obtain ⟨xs,hxs,e1⟩:=Option.map_eq_some_iff.1 h
     simp only[Prod.mk.injEq] at e1
     obtain ⟨rfl,rfl⟩:=e1
     obtain ⟨q,q'⟩:=cast?_some hxs
     injection q with q;subst q
     simp only at q';subst q'
     have hl':=hlh _ _ hl
     obtain ⟨h1,A,n,cp,eψ,h2,eX⟩:=hX _ _ _ hl'
     exact main l xs0 ys lo hh A n cp hl' hsrc eψ h1 h2 ⟨cp-lo,eX⟩
    ·cases h
   ·cases h
  ·cases h
theorem zero_rows (z:Array Value) (n:Nat):(Builtin.zeroCells z n).toList=(List.replicate n z.toList).flatten:=made_rows z n
theorem run_clear_none {T e ty:TypeId} (hu:P.underlying T=some (.slice e)) {A:Option Addr} {k:Nat}:(Builtin.clear_ #[T] ty #[.slice A 0 k]).run P w= .ok (.tuple #[]) w:=by
 cases A<;>simp[Builtin.clear_,run_underlying hu]
theorem run_clearZ {T e ty:TypeId} {i:TypeInfo} {z:Value} (hu:P.underlying T=some (.slice e)) (hi:P.info? e=some i) (hz:i.zero=some z) {g o n k:Nat} {cur:Array Value} (hg:w.heap[g]?=some (.cells cur e (0,0))) (hn:0<n)
  (h1:∀u∈(Builtin.zeroCells z.cells n).toList,u.oneCell'=true) (hfit:o+(Builtin.zeroCells z.cells n).toList.length≤cur.size):
  (Builtin.clear_ #[T] ty #[.slice (some ⟨g,o,none⟩) n k]).run P w= .ok (.tuple #[]) (w.setRow g (cur.toList.take o++(Builtin.zeroCells z.cells n).toList++cur.toList.drop (o+(Builtin.zeroCells z.cells n).toList.length)).toArray):=by
 have hst:=run_storeCells_at P g o e (Builtin.zeroCells z.cells n).toList 0 cur w hg (by simpa using hfit) h1
 simp only[Nat.add_zero] at hst
 have hzv:(zeroValue e).run P w= .ok z w:=by simp[zeroValue,typeInfo,hi,hz]
 obtain ⟨m,rfl⟩:∃m,n=m+1:=⟨n-1,by omega⟩
 simp[Builtin.clear_,run_underlying hu,hzv] at hst⊢
 simp[hst]
theorem clear_ok {T e:TypeId} {t:Ty} {X:Operand} {x:AV} {p:Prop} {eff:Eff} (ho:o.op= .call ⟨.builtin .clear,#[X],#[T]⟩) (hT:elemOk P T e t=true) (hz:zeroIs P e t=true)
  (hlh:∀l ob,lh l=some ob→hp l=some ob) (hX:AVR P hp ψ w (Mu M hp ψ) x (a.eval X)) (h:clearx lh e t x=some (p,eff)) (hp':p) (c:Ctx P B M hp ψ w fr):
  Does P o a w (OpPost P B M hp ψ w fr eff):=by
 obtain ⟨hu,i,hi,his⟩:=elemOk_spec hT
 obtain ⟨i',z,hi',hz',hrd⟩:=zeroIs_spec hz
 rw[hi] at hi';injection hi' with hi';subst hi'
 have hex:∀v' w',(Builtin.clear_ #[T] o.type #[a.eval X]).run P w= .ok v' w'→(execOp a.eval o).run P w= .ok (.value v') w':=by
  intro v' w' hr;unfold execOp;simp only[ho];simp[resolve,invoke,builtin,hr]
 unfold clearx at h
 split at h
 ·rename_i l lo hh
  split at h
  ·rename_i e' t' xs0 hl
   split at h
   ·rename_i ee;subst ee
    obtain ⟨xs,hxs,e1⟩:=Option.map_eq_some_iff.1 h
    simp only[Prod.mk.injEq] at e1
    obtain ⟨rfl,rfl⟩:=e1
    obtain ⟨q,q'⟩:=cast?_some hxs
    injection q with q
    replace q:=q.symm
    subst q
    simp only at q';subst q'
    have hl':=hlh _ _ hl
    obtain ⟨h1,A,n,cp,eψ,h2,eX⟩:=hX _ _ _ hl'
    replace eX:a.eval X= .slice (if cp=lo then A else A.map (·.add (lo*t.size))) (hh-lo) (cp-lo):=eX
    obtain ⟨cells,hown,hrow⟩:=c.hok.ob l _ hl'
    have hxn:xs0.length=n:=by
     rcases hown.2 with ⟨q,q2⟩|⟨g,cap,cur,q,_⟩
     ·rw[eψ] at q;injection q with _ q _;rw[q2,q]
     ·rw[eψ] at q;injection q with _ q _;exact q.symm
    have hcl:cells.length=xs0.length*t.size:=hown.1
    by_cases hz0:hh-lo=0
    ·have ex:xs0.take lo++(List.replicate (hh-lo) t.dflt++xs0.drop hh)=xs0:=by
      rw[hz0,List.replicate_zero,List.nil_append,show hh=lo by omega,List.take_append_drop]
     refine does_run (hex _ _ (by rw[eX,hz0];exact run_clear_none hu)) ?_
     rw[ex]
     exact c.write (l:=l) hl' (show t=t from rfl) (by simp) rfl rfl rfl (Nat.le_refl _) (fun _ _ _=>rfl) (fun hl'=>⟨cells,hown,hrow.mono fun _ _ _ q=>q.later hl'⟩) (fun _=>trivial)
    ·rcases hown.2 with ⟨q,q2⟩|⟨g,cap,cur,q,hB,hg,hnc,hcm,hcs,ht⟩
     ·exfalso;omega
     ·rw[eψ] at q
      injection q with qa qn qc
      have hcp:¬cp=lo:=by omega
      rw[if_neg hcp,qa] at eX
      simp only[Option.map_some] at eX
      have eadd:(⟨g,0,none⟩:Addr).add (lo*t.size)=⟨g,lo*t.size,none⟩:=by rw[Addr.add_mid,Nat.zero_add]
      rw[eadd] at eX
      obtain ⟨Z,hZ⟩:∃Z,Z=(Builtin.zeroCells z.cells (hh-lo)).toList:=⟨_,rfl⟩
      have hnr:∀(w':World) (M':Nat→Prop),RowsBy (fun x c=>Rd P t w' M' x c) (List.replicate (hh-lo) t.dflt) Z:=fun w' M'=>by rw[hZ,zero_rows];exact rows_rep (hrd _ _) _
      have hZl:Z.length=(hh-lo)*t.size:=by
       have:=RowsBy.len (n:=t.size) (fun _ _ q=>q.len) (hnr w fun _=>False);rwa [List.length_replicate] at this
      have a0:hh*t.size=lo*t.size+(hh-lo)*t.size:=by rw[←Nat.add_mul];congr 1;omega
      have a1:hh*t.size≤xs0.length*t.size:=Nat.mul_le_mul_right _ (by omega)
      have a2:xs0.length*t.size≤cap*t.size:=Nat.mul_le_mul_right _ hnc
      have hr:=run_clearZ (P:=P) (w:=w) (ty:=o.type) hu hi hz' (o:=lo*t.size) (n:=hh-lo) (k:=cp-lo) hg (by omega) (fun u hu=>rows_one (hnr w fun _=>False) u (hZ▸hu)) (by rw[←hZ,hcs,hZl];omega)
      rw[←hZ] at hr
      refine does_run (hex _ _ (by rw[eX];exact hr)) ?_
      have hxl:(xs0.take lo++(List.replicate (hh-lo) t.dflt++xs0.drop hh)).length=xs0.length:=by simp;omega
      have hcell:(cells.take (lo*t.size)++(Z++cells.drop (hh*t.size))).length=xs0.length*t.size:=by
       simp only[List.length_append,List.length_take,List.length_drop,hcl,hZl];omega
      refine c.write (l:=l) hl' (show t=t from rfl) (by simp) rfl rfl rfl (by simp[World.setRow]) (fun b _ hne=>setRow_other _ _ _ _ fun e=>hne (by rw[eψ,qa,e];rfl)) (fun hl'=>⟨cells.take (lo*t.size)++(Z++cells.drop (hh*t.size)),⟨by rw[hxl,hcell],.inr ⟨g,cap,_,by rw[hxl,eψ,qa,←qc,hxn],hB,setRow_heap _ _ _ _ _ _ hg,by rw[hxl];exact hnc,hcm,?_,?_⟩⟩,?_⟩) (fun _=>trivial)
      ·simp only[List.size_toArray,List.length_append,List.length_take,List.length_drop,Array.length_toList,hcs]
       omega
      ·rw[hxl]
       have hcur:cur.toList.length=cap*t.size:=by rw[Array.length_toList];exact hcs
       rw[←ht]
       apply List.ext_getElem?
       intro j
       simp only[List.append_assoc,List.getElem?_append,List.getElem?_take,List.getElem?_drop,List.length_take,hZl,hcur]
       have m1:min (lo*t.size) (cap*t.size)=lo*t.size:=Nat.min_eq_left (by omega)
       have m2:min (lo*t.size) (min (xs0.length*t.size) (cap*t.size))=lo*t.size:=by omega
       rw[m1,m2]
       by_cases j1:j<lo*t.size
       ·have:j<xs0.length*t.size:=by omega
        simp[j1,this]
       ·by_cases j2:j-lo*t.size<(hh-lo)*t.size
        ·have:j<xs0.length*t.size:=by omega
         simp[j1,j2,this]
        ·by_cases j3:j<xs0.length*t.size
         ·have j4:hh*t.size+(j-lo*t.size-(hh-lo)*t.size)<xs0.length*t.size:=by omega
          simp only[j1,j2,j3,if_true,if_false,j4]
          congr 1
          omega
         ·have j4:¬hh*t.size+(j-lo*t.size-(hh-lo)*t.size)<xs0.length*t.size:=by omega
          simp[j1,j2,j3,j4]
      ·obtain ⟨s1,s2⟩:=RowsBy.takes (n:=t.size) (fun _ _ q=>q.len) hrow (show lo≤xs0.length by omega)
       obtain ⟨s3,s4⟩:=RowsBy.takes (n:=t.size) (fun _ _ q=>q.len) hrow (show hh≤xs0.length by omega)
       exact RowsBy.append (s1.mono fun _ _ _ q=>q.later hl') (RowsBy.append (hnr _ _) (s4.mono fun _ _ _ q=>q.later hl'))
   ·cases h
  ·cases h
 ·cases h
theorem findEnt_mem {f:FuncId} {e:Ent} (h:findEnt C f=some e):e∈C∧e.f=f:=by
 unfold findEnt at h;exact ⟨List.mem_of_find?_eq_some h,by simpa using List.find?_some h⟩
theorem rdCap_ok (h0:HOK P B M hp ψ w) (hlh:∀l ob,lh l=some ob→hp l=some ob) {ls':List Nat}:∀{t:Ty} {avs:List AV} {d:t.den} {ls:List Nat},rdCap lh t avs=some (d,ls)→(∀l∈ls,l∈ls')→∀{vs:List Value},AVRs P hp ψ w (Mu M hp ψ) avs vs→RdL P t w (Mu M (kill hp ls') ψ) d vs
 | .nil,avs,d,ls,h,hs,vs,hv=>by
  cases avs with
  |nil=>obtain rfl:vs=[]:=hv;exact rfl
  |cons x r=>simp[rdCap] at h
 | .cons x y,avs,d,ls,h,hs,vs,hv=>by
  cases avs with
  |nil=>simp[rdCap] at h
  |cons av r=>
   obtain ⟨v,vs',rfl,q1,q2⟩:=hv;simp only[rdCap] at h;split at h
   ·rename_i d1 l1 h1;split at h
    ·rename_i e1 l2 h2;simp only[Option.some.injEq,Prod.mk.injEq] at h;obtain ⟨rfl,rfl⟩:=h;exact ⟨v,vs',rfl,rd_ok h0 hlh h1 q1 (fun l hl=>hs l (List.mem_append_left _ hl)),rdCap_ok h0 hlh h2 (fun l hl=>hs l (List.mem_append_right _ hl)) q2⟩
    ·cases h
   ·cases h
 | .bool,_,_,_,h,_,_,_=>by simp[rdCap] at h
 | .int _,_,_,_,h,_,_,_=>by simp[rdCap] at h
 | .str,_,_,_,h,_,_,_=>by simp[rdCap] at h
 | .sl _,_,_,_,h,_,_,_=>by simp[rdCap] at h
 | .ptr _,_,_,_,h,_,_,_=>by simp[rdCap] at h
 | .st _,_,_,_,h,_,_,_=>by simp[rdCap] at h
 | .fn _ _,_,_,_,h,_,_,_=>by simp[rdCap] at h
 | .fn2 _ _ _,_,_,_,h,_,_,_=>by simp[rdCap] at h
 | .mp _ _,_,_,_,h,_,_,_=>by simp[rdCap] at h
theorem RdL.later {w1:World} {M1 M2:Nat→Prop} (h:Later w M1 w1 M2):∀{t:Ty} {d:t.den} {vs:List Value},RdL P t w M1 d vs→RdL P t w1 M2 d vs
 | .nil,_,_,q=>q
 | .cons x y,d,_,⟨v,r,e,q1,q2⟩=>⟨v,r,e,q1.later h,RdL.later h q2⟩
 | .bool,_,_,q=>q.elim
 | .int _,_,_,q=>q.elim
 | .str,_,_,q=>q.elim
 | .sl _,_,_,q=>q.elim
 | .ptr _,_,_,q=>q.elim
 | .st _,_,_,q=>q.elim
 | .fn _ _,_,_,q=>q.elim
 | .fn2 _ _ _,_,_,q=>q.elim
 | .mp _ _,_,_,q=>q.elim
theorem shape_fn {a r:Ty} {f:Fn} {x y:Array Value}:(Ty.fn a r).shape (.func f x y):=by unfold Ty.shape Ty.isSt;simp
theorem shape_fn2 {a b r:Ty} {f:Fn} {x y:Array Value}:(Ty.fn2 a b r).shape (.func f x y):=by unfold Ty.shape Ty.isSt;simp
theorem rdClo_ok (hC:∀e∈C,Con P e) (h0:HOK P B M hp ψ w) (hlh:∀l ob,lh l=some ob→hp l=some ob) {ls':List Nat} {t:Ty} {f:FuncId} {cap:List AV} {p:Prop} {d:t.den} {ls:List Nat} (h:rdClo C lh t f cap=some (p,d,ls)) (hp':p) (hs:∀l∈ls,l∈ls') {v:Value}
  (hv:AVR P hp ψ w (Mu M hp ψ) (.clo f cap) v):RdV P t w (Mu M (kill hp ls') ψ) d v:=by
 obtain ⟨us,rfl,q⟩:=hv
 unfold rdClo at h
 split at h
 ·rename_i g x y z r pre F he
  obtain ⟨hm,hf⟩:=findEnt_mem he
  simp only at hf;subst hf
  obtain ⟨hfo,hcon⟩:=(hC _ hm).is rfl
  simp only at hfo hcon
  split at h
  ·rename_i ds l1 h1
   obtain ⟨G,hG,e⟩:=Option.map_eq_some_iff.1 h
   simp only[Prod.mk.injEq] at e
   obtain ⟨rfl,rfl,rfl⟩:=e
   refine cast?_rdv hG ⟨shape_fn,g,us,rfl,hfo,fun w1 M1 hl s u hsh hu=>?_⟩
   have hcap:=(rdCap_ok h0 hlh h1 hs q).later hl
   have hc:=hcon (s,ds) (hp' s) w1 M1 (u::us.toList) hl.bound ⟨u,us.toList,rfl,⟨hsh,hu⟩,hcap⟩
   rw[show (u::us.toList).toArray= #[u]++us by apply Array.ext';simp] at hc
   refine Calls.mono hc ?_
   rintro en w2 ⟨v',rfl,hb,hr⟩
   exact ⟨v',rfl,hr.1,hr.2,hb⟩
  ·split at h
   ·rename_i ds l1 h1
    obtain ⟨G,hG,e⟩:=Option.map_eq_some_iff.1 h
    simp only[Prod.mk.injEq] at e
    obtain ⟨rfl,rfl,rfl⟩:=e
    refine cast?_rdv hG ⟨shape_fn2,g,us,rfl,hfo,fun w1 M1 hl s u s' u' hsh hu hsh' hu'=>?_⟩
    have hcap:=(rdCap_ok h0 hlh h1 hs q).later hl
    have hc:=hcon (s,s',ds) (hp' s s') w1 M1 (u::u'::us.toList) hl.bound ⟨u,u'::us.toList,rfl,⟨hsh,hu⟩,u',us.toList,rfl,⟨hsh',hu'⟩,hcap⟩
    rw[show (u::u'::us.toList).toArray= #[u,u']++us by apply Array.ext';simp] at hc
    refine Calls.mono hc ?_
    rintro en w2 ⟨v',rfl,hb,hr⟩
    exact ⟨v',rfl,hr.1,hr.2,hb⟩
   ·cases h
 ·rename_i g x r pre F he
  obtain ⟨hm,hf⟩:=findEnt_mem he
  simp only at hf;subst hf
  obtain ⟨hfo,hcon⟩:=(hC _ hm).is rfl
  simp only at hfo hcon
  split at h
  ·obtain ⟨G,hG,e⟩:=Option.map_eq_some_iff.1 h
   simp only[Prod.mk.injEq] at e
   obtain ⟨rfl,rfl,rfl⟩:=e
   have hus:us.toList=[]:=q
   refine cast?_rdv hG ⟨shape_fn,g,us,rfl,hfo,fun w1 M1 hl s u hsh hu=>?_⟩
   have hc:=hcon (s,()) (hp' s) w1 M1 [u] hl.bound ⟨u,[],rfl,⟨hsh,hu⟩,rfl⟩
   rw[show [u].toArray= #[u]++us by apply Array.ext';simp[hus]] at hc
   refine Calls.mono hc ?_
   rintro en w2 ⟨v',rfl,hb,hr⟩
   exact ⟨v',rfl,hr.1,hr.2,hb⟩
  ·cases h
 ·cases h
theorem rdA_ok (hC:∀e∈C,Con P e) (h0:HOK P B M hp ψ w) (hlh:∀l ob,lh l=some ob→hp l=some ob) {ls':List Nat} {t:Ty} {av:AV} {p:Prop} {d:t.den} {ls:List Nat} (h:rdA C lh t av=some (p,d,ls)) (hp':p) (hs:∀l∈ls,l∈ls') {v:Value}
  (hv:AVR P hp ψ w (Mu M hp ψ) av v):RdV P t w (Mu M (kill hp ls') ψ) d v:=by
 unfold rdA at h
 split at h
 ·exact rdClo_ok hC h0 hlh h hp' hs hv
 ·obtain ⟨x,hx,e⟩:=Option.map_eq_some_iff.1 h
  simp only[Prod.mk.injEq] at e
  obtain ⟨_,rfl,rfl⟩:=e
  exact rd_ok h0 hlh hx hv hs
theorem rdL_ok (hC:∀e∈C,Con P e) (h0:HOK P B M hp ψ w) (hlh:∀l ob,lh l=some ob→hp l=some ob) {ls':List Nat}:∀{t:Ty} {avs:List AV} {p:Prop} {d:t.den} {ls:List Nat},rdL C lh t avs=some (p,d,ls)→p→(∀l∈ls,l∈ls')→∀{vs:List Value},AVRs P hp ψ w (Mu M hp ψ) avs vs→RdL P t w (Mu M (kill hp ls') ψ) d vs
 | .nil,avs,p,d,ls,h,hp',hs,vs,hv=>by
  cases avs with
  |nil=>obtain rfl:vs=[]:=hv;exact rfl
  |cons x r=>simp[rdL] at h
 | .cons x y,avs,p,d,ls,h,hp',hs,vs,hv=>by
  cases avs with
  |nil=>simp[rdL] at h
  |cons av r=>
   obtain ⟨v,vs',rfl,q1,q2⟩:=hv;simp only[rdL] at h;split at h
   ·rename_i p1 d1 l1 h1;split at h
    ·rename_i p2 e1 l2 h2;simp only[Option.some.injEq,Prod.mk.injEq] at h;obtain ⟨rfl,rfl,rfl⟩:=h;exact ⟨v,vs',rfl,rdA_ok hC h0 hlh h1 hp'.1 (fun l hl=>hs l (List.mem_append_left _ hl)) q1,rdL_ok hC h0 hlh h2 hp'.2 (fun l hl=>hs l (List.mem_append_right _ hl)) q2⟩
    ·cases h
   ·cases h
 | .bool,_,_,_,_,h,_,_,_,_=>by simp[rdL] at h
 | .int _,_,_,_,_,h,_,_,_,_=>by simp[rdL] at h
 | .str,_,_,_,_,h,_,_,_,_=>by simp[rdL] at h
 | .sl _,_,_,_,_,h,_,_,_,_=>by simp[rdL] at h
 | .ptr _,_,_,_,_,h,_,_,_,_=>by simp[rdL] at h
 | .st _,_,_,_,_,h,_,_,_,_=>by simp[rdL] at h
 | .fn _ _,_,_,_,_,h,_,_,_,_=>by simp[rdL] at h
 | .fn2 _ _ _,_,_,_,_,h,_,_,_,_=>by simp[rdL] at h
 | .mp _ _,_,_,_,_,h,_,_,_,_=>by simp[rdL] at h
theorem scalar_rd {w1:World} {M1 M2:Nat→Prop}:∀{t:Ty} {d:t.den} {cs:List Value},t.scalar=true→Rd P t w M1 d cs→Rd P t w1 M2 d cs
 | .bool,_,_,_,q=>q
 | .int _,_,_,_,q=>q
 | .str,_,_,_,q=>q
 | .nil,_,_,_,q=>q
 | .st t,_,_,h,q=>scalar_rd (t:=t) h q
 | .cons x y,_,_,h,⟨c1,c2,e,q1,q2⟩=>by
  simp only[Ty.scalar,Bool.and_eq_true] at h;exact ⟨c1,c2,e,scalar_rd h.1 q1,scalar_rd h.2 q2⟩
 | .sl _,_,_,h,_=>by simp[Ty.scalar] at h
 | .ptr _,_,_,h,_=>by simp[Ty.scalar] at h
 | .fn _ _,_,_,h,_=>by simp[Ty.scalar] at h
 | .fn2 _ _ _,_,_,h,_=>by simp[Ty.scalar] at h
 | .mp _ _,_,_,h,_=>by simp[Ty.scalar] at h
theorem scalar_rdl {w1:World} {M1 M2:Nat→Prop}:∀{t:Ty} {d:t.den} {vs:List Value},t.scalar=true→RdL P t w M1 d vs→RdL P t w1 M2 d vs
 | .nil,_,_,_,q=>q
 | .cons x y,_,_,h,⟨v,r,e,q1,q2⟩=>by
  simp only[Ty.scalar,Bool.and_eq_true] at h;exact ⟨v,r,e,⟨q1.1,scalar_rd h.1 q1.2⟩,scalar_rdl h.2 q2⟩
 | .bool,_,_,_,q=>q.elim
 | .int _,_,_,_,q=>q.elim
 | .str,_,_,_,q=>q.elim
 | .sl _,_,_,_,q=>q.elim
 | .ptr _,_,_,_,q=>q.elim
 | .st _,_,_,_,q=>q.elim
 | .fn _ _,_,_,_,q=>q.elim
 | .fn2 _ _ _,_,_,_,q=>q.elim
 | .mp _ _,_,_,_,q=>q.elim
theorem resAVs_ok {hp:Hp} {M':Nat→Prop}:∀{t:Ty} {d:t.den} {vs:List Value},RdL P t w M' d vs→AVRs P hp ψ w M' (resAVs t d) vs
 | .nil,_,_,q=>q
 | .cons x y,_,_,⟨v,r,e,q1,q2⟩=>⟨v,r,e,q1,resAVs_ok q2⟩
 | .bool,_,_,q=>q.elim
 | .int _,_,_,q=>q.elim
 | .str,_,_,q=>q.elim
 | .sl _,_,_,q=>q.elim
 | .ptr _,_,_,q=>q.elim
 | .st _,_,_,q=>q.elim
 | .fn _ _,_,_,q=>q.elim
 | .fn2 _ _ _,_,_,q=>q.elim
 | .mp _ _,_,_,q=>q.elim
theorem kill_bound (h0:HOK P B M hp ψ w) (ls:List Nat):∀b,Mu M (kill hp ls) ψ b→b<w.heap.size:=fun b q=>h0.mu b (kill_mu b q)
theorem rows_scalar {w1:World} {M1 M2:Nat→Prop} {t:Ty} (h:t.scalar=true) {xs:List t.den} {cs:List Value} (q:RowsBy (fun x c=>Rd P t w M1 x c) xs cs):RowsBy (fun x c=>Rd P t w1 M2 x c) xs cs:=q.mono fun _ _ _ q=>scalar_rd h q
theorem fresh_ok {r:Ty} {res:r.den} {e:TypeId} {ls:List Nat} {e1:Eff} {v:Value} (he1:freshEff fr e ls r res=some e1) (hb:Below w.heap.size w w') (hres:Fresh P w.heap.size w' (Mu M (kill hp ls) ψ) e r res v) (c:Ctx P B M hp ψ w fr):OpPost P B M hp ψ w fr e1 v w':=by
 cases r with
 |sl t=>
  simp only[freshEff,Option.some.injEq] at he1;subst he1;obtain ⟨cells,hown,hrow⟩:=hres;by_cases hs:t.scalar=true
  ·rw[if_pos hs];exact new_row c hb hown fun _=>rows_scalar hs hrow
  ·rw[if_neg hs];refine new_row c hb hown fun hl=>hrow.mono fun x _ cc q=>q.later ⟨Nat.le_refl _,fun _ _ _=>rfl,fun b _ q=>?_,hl.bound⟩;rcases q with q|⟨l,ob,q1,q2⟩
   ·exact .inl (.inl q)
   ·by_cases el:l=fr
    ·subst el;rw[upd'_same] at q2;exact .inr q2
    ·rw[putHp_other _ _ el] at q1;rw[upd'_other _ _ el] at q2;exact .inl (.inr ⟨l,ob,q1,q2⟩)
 |_=>simp[freshEff] at he1
theorem plain_ok (h0:HOK P B M hp ψ w) (hlh:∀l ob,lh l=some ob→hp l=some ob) {l:Nat} {ob:OB} (hl:hp l=some ob):∀{avs:List AV} {us:List Value},avs.all (plainArg lh l)=true→AVRs P hp ψ w (Mu M hp ψ) avs us→
  ∀u∈us,∀b,blk u=some b→blk (ψ l)≠some b∧∃cur e,w.heap[b]?=some (.cells cur e (0,0))
 |[],us,_,h=>by obtain rfl:us=[]:=h;intro u hu;simp at hu
 |av::r,_,hall,⟨v,vs,e,q1,q2⟩=>by
  subst e;simp only[List.all_cons,Bool.and_eq_true] at hall;intro u hu b hb;rcases List.mem_cons.1 hu with rfl|hu
  ·have hp1:=hall.1;unfold plainArg at hp1;split at hp1
   ·rename_i k;simp only[Bool.and_eq_true,bne_iff_ne] at hp1;obtain ⟨hne,hp1⟩:=hp1;split at hp1
    ·rename_i e t xs hk;have hk':=hlh _ _ hk;obtain rfl:u=ψ k:=q1 _ hk';refine ⟨fun q=>hne (h0.dj _ _ _ _ b hk' hl hb q),?_⟩;obtain ⟨cells,hown,_⟩:=h0.ob k _ hk';rcases hown.2 with ⟨q,_⟩|⟨g,cap,cur,q,_,hg,_⟩
     ·rw[q] at hb;simp[blk] at hb
     ·rw[q] at hb;simp only[blk,Option.some.injEq] at hb;subst hb;exact ⟨cur,_,hg⟩
    ·cases hp1
   ·rename_i t d;split at hp1
    ·rw[avr_bool q1] at hb;simp[blk] at hb
    ·rw[(avr_int q1).1] at hb;simp[blk] at hb
    ·rw[avr_str q1] at hb;simp[blk] at hb
    ·obtain ⟨cs,e⟩:=q1.1.2 rfl;rw[e] at hb;simp[blk] at hb
    ·cases hp1
   ·obtain ⟨us,e,_⟩:=q1;rw[e] at hb;simp[blk] at hb
   ·cases hp1
  ·exact plain_ok h0 hlh hl hall.2 q2 u hu b hb
theorem isNilV_eq {u:Value} (h:isNilV u=true):u= .slice none 0 0:=by
 unfold isNilV at h;split at h
 ·rfl
 ·cases h
theorem nil_ok (h0:HOK P B M hp ψ w) (hlh:∀l ob,lh l=some ob→hp l=some ob) {l:Nat}:∀{avs:List AV} {us:List Value},avs.all (plainArg lh l)=true→AVRs P hp ψ w (Mu M hp ψ) avs us→
  ∀u∈us,∀b,blk u=some b→blk (.slice none 0 0)≠some b∧∃cur e,w.heap[b]?=some (.cells cur e (0,0))
 |[],us,_,h=>by obtain rfl:us=[]:=h;intro u hu;simp at hu
 |av::r,_,hall,⟨v,vs,e,q1,q2⟩=>by
  subst e;simp only[List.all_cons,Bool.and_eq_true] at hall;intro u hu b hb;rcases List.mem_cons.1 hu with rfl|hu
  ·have hp1:=hall.1;unfold plainArg at hp1;split at hp1
   ·rename_i k;simp only[Bool.and_eq_true,bne_iff_ne] at hp1;obtain ⟨hne,hp1⟩:=hp1;split at hp1
    ·rename_i e t xs hk;have hk':=hlh _ _ hk;obtain rfl:u=ψ k:=q1 _ hk';refine ⟨fun q=>by simp[blk] at q,?_⟩;obtain ⟨cells,hown,_⟩:=h0.ob k _ hk';rcases hown.2 with ⟨q,_⟩|⟨g,cap,cur,q,_,hg,_⟩
     ·rw[q] at hb;simp[blk] at hb
     ·rw[q] at hb;simp only[blk,Option.some.injEq] at hb;subst hb;exact ⟨cur,_,hg⟩
    ·cases hp1
   ·rename_i t d;split at hp1
    ·rw[avr_bool q1] at hb;simp[blk] at hb
    ·rw[(avr_int q1).1] at hb;simp[blk] at hb
    ·rw[avr_str q1] at hb;simp[blk] at hb
    ·obtain ⟨cs,e⟩:=q1.1.2 rfl;rw[e] at hb;simp[blk] at hb
    ·cases hp1
   ·obtain ⟨us,e,_⟩:=q1;rw[e] at hb;simp[blk] at hb
   ·cases hp1
  ·exact nil_ok h0 hlh hall.2 q2 u hu b hb
theorem own_ok (hC:∀e∈C,Con P e) (hlh:∀l ob,lh l=some ob→hp l=some ob) {ent:Ent} {avs:List AV} {vs:List Value} {p:Prop} {eff:Eff} (hv:AVRs P hp ψ w (Mu M hp ψ) avs vs) (h:ownx C lh fr ent avs=some (p,eff)) (hp':p) (c:Ctx P B M hp ψ w fr) (hcon:OwnCon P ent):
  funcOk P ent.f=true∧Calls P ent.f vs.toArray w fun e w'=>∃v,e= .returned v∧OpPost P B M hp ψ w fr eff v w':=by
 unfold ownx at h
 split at h
 rotate_left
 ·rename_i f t ar t' many T pre F u0 rest
  obtain ⟨hfo,hcon⟩:=hcon
  refine ⟨hfo,?_⟩
  split at h
  rotate_left
  ·cases h
  rename_i hnil
  have hu0:=isNilV_eq hnil
  subst hu0
  split at h
  rotate_left
  ·cases h
  rename_i p1 d ls hrd
  split at h
  ·cases h
  rename_i hns
  simp only[Bool.or_eq_true,Bool.not_eq_true',not_or,Bool.not_eq_false] at hns
  obtain ⟨⟨hs,hs'⟩,hpl⟩:=hns
  simp only[Option.some.injEq,Prod.mk.injEq] at h
  obtain ⟨rfl,rfl⟩:=h
  obtain ⟨v,us,rfl,hq,hqs⟩:=hv
  have hv0:v= .slice none 0 0:=hq
  subst hv0
  have hargs:=rdL_ok hC c.hok hlh hrd hp'.1 (fun _ h=>h) hqs
  have hown0:w.ownsRow 0 T t.size (.slice none 0 0) ([]:List t.den).length []:=⟨by simp,.inl ⟨rfl,rfl⟩⟩
  refine Calls.mono (hcon [] d hp'.2 w (Mu M (kill hp ls) ψ) (.slice none 0 0) us [] (kill_bound c.hok ls) (fun b hb=>by simp[blk] at hb) hown0 rfl hargs (nil_ok c.hok hlh hpl hqs)) ?_
  rintro en w' ⟨v',cells',rfl,k1,k2,k3,k4⟩
  refine ⟨v',rfl,?_⟩
  have hB:∀b,blk v'=some b→w.heap.size≤b:=fun b hb=>by
   rcases k4 with k4|⟨g,k4,k5⟩
   ·rw[k4] at hb;simp[blk] at hb
   ·rw[k4] at hb;injection hb with hb;subst hb;exact k5
  have k1':w'.ownsRow B T t'.size v' (F ([],d)).length cells':=by
   refine ⟨k1.1,?_⟩;rcases k1.2 with q|⟨g,cap,cur,q1,_,q3⟩
   ·exact .inl q
   ·exact .inr ⟨g,cap,cur,q1,Nat.le_trans c.hok.bz (hB g (by rw[q1];rfl)),q3⟩
  refine c.news (u:=v') k3.os k3.tape k3.output k3.size (fun b hb hne=>k3.block b hb fun eb=>by simp[Value.ownBlock] at eb) (fun b hb=>?_) (fun hl=>⟨cells',by rw[upd'_same];exact k1',rows_scalar hs' k2⟩) (fun _ ob _=>by simp)
  exact .inl ⟨hB b hb,(ownsRow_blk k1 hb).2⟩
 ·cases h
 rename_i f t ar t' many T pre F l rest
 obtain ⟨hfo,hcon⟩:=hcon
 refine ⟨hfo,?_⟩
 split at h
 rotate_left
 ·cases h
 rename_i e t'' xs hl
 split at h
 rotate_left
 ·cases h
 rename_i heT
 subst heT
 split at h
 rotate_left
 ·cases h
 rename_i ys hcast
 obtain ⟨q,q'⟩:=cast?_some hcast
 simp only[Ty.sl.injEq] at q
 subst q
 simp only at q';subst q'
 split at h
 rotate_left
 ·cases h
 rename_i p1 d ls hrd
 split at h
 ·cases h
 rename_i hns
 simp only[Bool.or_eq_true,List.contains_iff_mem,Bool.not_eq_true',not_or,Bool.not_eq_false] at hns
 obtain ⟨⟨⟨hn,hs⟩,hs'⟩,hpl⟩:=hns
 simp only[Option.some.injEq,Prod.mk.injEq] at h
 obtain ⟨rfl,rfl⟩:=h
 obtain ⟨v,us,rfl,hq,hqs⟩:=hv
 have hl':=hlh l _ hl
 have hvl:v=ψ l:=hq _ hl'
 subst hvl
 obtain ⟨cells,hown,hrow⟩:=c.hok.ob l _ hl'
 have hMl:∀b,blk (ψ l)=some b→Mu M (kill hp ls) ψ b:=fun b hb=>.inr ⟨l,_,by unfold kill;rw[if_neg hn];exact hl',hb⟩
 have hargs:=rdL_ok hC c.hok hlh hrd hp'.1 (fun _ h=>h) hqs
 have hown0:w.ownsRow 0 e t''.size (ψ l) xs.length cells:=by
  refine ⟨hown.1,?_⟩;rcases hown.2 with q|⟨g,cap,cur,q1,_,q3⟩
  ·exact .inl q
  ·exact .inr ⟨g,cap,cur,q1,Nat.zero_le _,q3⟩
 refine Calls.mono (hcon xs d hp'.2 w (Mu M (kill hp ls) ψ) (ψ l) us cells (kill_bound c.hok ls) hMl hown0 (rows_scalar hs hrow) hargs (plain_ok c.hok hlh hl' hpl hqs)) ?_
 rintro en w' ⟨v',cells',rfl,k1,k2,k3,k4⟩
 refine ⟨v',rfl,?_⟩
 obtain ⟨A,cX,eX⟩:=ownsRow_slice hown
 obtain ⟨A',cX',eX'⟩:=ownsRow_slice k1
 have hB:∀b,blk v'=some b→B≤b:=fun b hb=>by
  rcases k4 with k4|⟨g,k4,k5⟩
  ·exact (ownsRow_blk hown (by rw[←k4];exact hb)).1
  ·rw[k4] at hb;injection hb with hb;subst hb;exact Nat.le_trans c.hok.bz k5
 have k1':w'.ownsRow B e t'.size v' (F (xs,d)).length cells':=by
  refine ⟨k1.1,?_⟩;rcases k1.2 with q|⟨g,cap,cur,q1,_,q3⟩
  ·exact .inl q
  ·exact .inr ⟨g,cap,cur,q1,hB g (by rw[q1];rfl),q3⟩
 refine c.news (u:=v') k3.os k3.tape k3.output k3.size (fun b hb hne=>k3.block b hb fun eb=>?_) (fun b hb=>?_) (fun hl=>⟨cells',by rw[upd'_same];exact k1',rows_scalar hs' k2⟩) (fun _ ob _=>by simp)
 ·exact hne l (by simp) _ hl' (by rw[blk_own eX];exact eb.symm)
 ·rcases k4 with k4|⟨g,k4,k5⟩
  ·exact .inr ⟨l,by simp,_,hl',by rw[←k4];exact hb⟩
  ·left
   rw[k4] at hb;injection hb with hb;subst hb
   exact ⟨k5,(ownsRow_blk k1 k4).2⟩
theorem call_ok (hC:∀e∈C,Con P e) (hlh:∀l ob,lh l=some ob→hp l=some ob) {f:FuncId} {avs:List AV} {vs:List Value} {p:Prop} {eff:Eff} (hv:AVRs P hp ψ w (Mu M hp ψ) avs vs) (h:callx C lh fr f avs=some (p,eff)) (hp':p) (c:Ctx P B M hp ψ w fr):
  funcOk P f=true∧Calls P f vs.toArray w fun e w'=>∃v,e= .returned v∧OpPost P B M hp ψ w fr eff v w':=by
 unfold callx at h
 split at h
 ·cases h
 ·rename_i ent he
  obtain ⟨hm,rfl⟩:=findEnt_mem he
  by_cases hown:ent.own=true
  ·rw[if_pos hown] at h
   exact own_ok hC hlh hv h hp' c (by have:=hC _ hm;unfold Con at this;rwa [if_pos hown] at this)
  rw[if_neg hown] at h
  obtain ⟨hfo,hcon⟩:=(hC _ hm).is (by simpa using hown)
  refine ⟨hfo,?_⟩
  split at h
  ·cases h
  ·rename_i p1 d ls h1
   have run:p1→ent.pre d→Calls P ent.f vs.toArray w fun en w'=>∃v,en= .returned v∧Below w.heap.size w w'∧(match ent.fresh with
     |some t=>Fresh P w.heap.size w' (Mu M (kill hp ls) ψ) t ent.r (ent.F d) v
     |none=>RdRes P ent.many ent.r w' (Mu M (kill hp ls) ψ) (ent.F d) v):=fun q1 q2=>
    hcon d q2 w (Mu M (kill hp ls) ψ) vs (kill_bound c.hok ls) (rdL_ok hC c.hok hlh h1 q1 (fun _ h=>h) hv)
   cases hf:ent.fresh with
   |none=>
    rw[hf] at h
    simp only[Option.some.injEq,Prod.mk.injEq] at h
    obtain ⟨rfl,rfl⟩:=h
    have hr:=run hp'.1 hp'.2
    simp only[hf] at hr
    refine Calls.mono hr ?_
    rintro en w' ⟨v,rfl,hb,hres⟩
    refine ⟨v,rfl,?_⟩
    have hav:∀hp0 M0,(ent.r.scalar=true∨M0=Mu M (kill hp ls) ψ)→AVR P hp0 ψ w' M0 (if ent.many then .tup (resAVs ent.r (ent.F d)) else .val ent.r (ent.F d)) v:=by
     intro hp0 M0 hM;unfold RdRes at hres;by_cases hmany:ent.many=true
     ·rw[if_pos hmany] at hres;rw[if_pos hmany];obtain ⟨us,rfl,q⟩:=hres;refine ⟨us,rfl,resAVs_ok ?_⟩;rcases hM with hM|rfl
      ·exact scalar_rdl hM q
      ·exact q
     ·rw[if_neg hmany] at hres;rw[if_neg hmany];rcases hM with hM|rfl
      ·exact ⟨hres.1,scalar_rd hM hres.2⟩
      ·exact hres
    by_cases hs:ent.r.scalar=true
    ·rw[if_pos hs]
     exact c.quiet hb (hav _ _ (.inl hs))
    ·rw[if_neg hs]
     exact c.kills hb (hav _ _ (.inr rfl))
   |some t=>
    rw[hf] at h
    simp only at h
    obtain ⟨e1,he1,e2⟩:=Option.map_eq_some_iff.1 h
    simp only[Prod.mk.injEq] at e2
    obtain ⟨rfl,rfl⟩:=e2
    have hr:=run hp'.1 hp'.2
    simp only[hf] at hr
    refine Calls.mono hr ?_
    rintro en w' ⟨v,rfl,hb,hres⟩
    exact ⟨v,rfl,fresh_ok he1 hb hres c⟩
end
end T
end Go.Proofs.YtpocfbfmjippnaaGreat
end
section
namespace Go.Proofs.YtpocfbfmjippnaaGreat
open Go.RowKit
namespace T
section
variable {P:Program} {B:Nat} {M:Nat→Prop} {hp lh:Hp} {ψ:Nat→Value} {w w':World} {fr:Nat} {C:List Ent} {o:Oper} {a:Act}
theorem live_ptr (h0:HOK P B M hp ψ w) {l:Nat} {ob:OB} (hl:hp l=some ob) {o':Nat} {v:Value} (hX:AVR P hp ψ w (Mu M hp ψ) (.ptr l o') v):∃b,v= .pointer (some ⟨b,o',none⟩):=by
 obtain ⟨b,_,e⟩:=hX _ hl;exact ⟨b,e⟩
theorem nilck_run {X:Operand} {ad:Addr} (ho:o.op= .nilCheck X) (e:a.eval X= .pointer (some ad)):(execOp a.eval o).run P w= .ok (.value (.pointer (some ad))) w:=by
 unfold execOp;simp only[ho,e];rfl
theorem len_ok {T:TypeId} {str:Bool} {ty:Array TypeId} {X:Operand} {x:AV} {n:Nat} (ho:o.op= .call ⟨.builtin .len,#[X],ty⟩) (hT:ty[0]?=some T) (hu:(match P.underlying T with|some (.slice _)=>!str|some .string=>str|_=>false)=true) (hlh:∀l ob,lh l=some ob→hp l=some ob)
  (hX:AVR P hp ψ w (Mu M hp ψ) x (a.eval X)) (h:lenx lh str x=some n) (c:Ctx P B M hp ψ w fr):Does P o a w (OpPost P B M hp ψ w fr (pur (.val (.int .i64) (n:Int)))):=by
 have rng:∀k:Nat,k≤maxLen→IntKind.i64.min≤(k:Int)∧(k:Int)≤IntKind.i64.max:=by
  intro k hk;simp only[maxLen] at hk;have e1:IntKind.i64.min= -9223372036854775808:=rfl;have e2:IntKind.i64.max=9223372036854775807:=rfl;omega
 have sl:∀(k:Nat),k≤maxLen→str=false→(∃A cp,a.eval X= .slice A k cp)→Does P o a w (OpPost P B M hp ψ w fr (pur (.val (.int .i64) (k:Int)))):=by
  rintro k hk rfl ⟨A,cp,e1⟩;refine does_run (v:=.int .i64 k) ?_ (c.pure (int_avr (rng k hk)));split at hu
  ·rename_i e hu';unfold execOp;simp only[ho];simp[resolve,invoke,builtin,Builtin.len_,hT,run_underlying hu',e1,goInt]
  ·cases hu
  ·cases hu
 have st:∀(s:ByteArray),s.size≤maxLen→str=true→a.eval X= .string s→Does P o a w (OpPost P B M hp ψ w fr (pur (.val (.int .i64) (s.size:Int)))):=by
  rintro s hk rfl e1;refine does_run (v:=.int .i64 s.size) ?_ (c.pure (int_avr (rng s.size hk)));split at hu
  ·simp at hu
  ·rename_i hu';unfold execOp;simp only[ho];simp[resolve,invoke,builtin,Builtin.len_,hT,run_underlying hu',e1,goInt]
  ·cases hu
 unfold lenx at h
 split at h
 ·split at h
  ·rename_i hl
   injection h with h;subst h
   have hl':=hlh _ _ hl
   have eX:=hX _ hl'
   obtain ⟨cells,hown,_⟩:=c.hok.ob _ _ hl'
   rcases id hown.2 with ⟨q,q'⟩|⟨g,cap,cur,q,_,_,q1,q2,_⟩
   ·rw[q'] at*
    exact sl 0 (Nat.zero_le _) rfl ⟨_,_,by rw[eX,q]⟩
   ·exact sl _ (Nat.le_trans q1 q2) rfl ⟨_,_,by rw[eX,q]⟩
  ·cases h
 ·rename_i t xs
  injection h with h;subst h
  obtain ⟨A,n,cp,e1,e2,e3,e4,_⟩:=(RdV.one (t:=.sl t) hX rfl rfl).1
  simp only[List.cons.injEq,and_true] at e1
  exact sl _ (by omega) rfl ⟨A,cp,by rw[e1,e2]⟩
 ·injection h with h;subst h
  have:=(RdV.one (t:=.str) hX rfl rfl).1
  exact st _ this.2 rfl (avr_str hX)
 ·injection h with h;subst h
  have eX:a.eval X=_:=hX
  exact sl 0 (Nat.zero_le _) rfl ⟨none,0,eX⟩
 ·injection h with h;subst h
  obtain ⟨A,eX⟩:=hX
  exact sl 0 (Nat.zero_le _) rfl ⟨some A,0,eX⟩
 ·cases h
theorem callf_ok {Y:Operand} {As:Array Operand} {ts:Array TypeId} {f:FuncId} {cap:Array Value} {R:Value→World→Prop} (ho:o.op= .call ⟨.value Y,As,ts⟩) (hY:a.eval Y= .func (.func f) #[] cap) (hf:funcOk P f=true)
  (hc:Calls P f (As.map a.eval++cap) w fun e w'=>∃v,e= .returned v∧R v w'):Does P o a w R:=by
 refine does_call ?_ hc
 unfold funcOk at hf
 split at hf
 ·rename_i fn hfn
  simp only[Bool.and_eq_true,bne_iff_ne] at hf
  obtain ⟨h1,h2⟩:=hf
  unfold execOp;simp only[ho]
  obtain ⟨cd,hcd⟩:=Option.isSome_iff_exists.1 h2
  simp[resolve,Deferred.ofValue,invoke,callFunc,hY,hfn,h1,hcd]
 ·cases hf
theorem call1_ok {Y:Operand} {As:Array Operand} {ts:Array TypeId} {ty r:Ty} {F:ty.den→r.den} {d:ty.den} {ls:List Nat} {x:AV} (ho:o.op= .call ⟨.value Y,As,ts⟩) (hlh:∀l ob,lh l=some ob→hp l=some ob) (hY:AVR P hp ψ w (Mu M hp ψ) (.val (.fn ty r) F) (a.eval Y))
  (hv:AVRs P hp ψ w (Mu M hp ψ) [x] (As.toList.map a.eval)) (h:rd lh ty x=some (d,ls)) (c:Ctx P B M hp ψ w fr):Does P o a w (OpPost P B M hp ψ w fr ⟨.val r (F d),if r.scalar then [] else ls,none⟩):=by
 obtain ⟨f,cap,e,hfo,hfn⟩:=(RdV.one (t:=.fn ty r) hY rfl rfl).1
 simp only[List.cons.injEq,and_true] at e
 obtain ⟨v,hAs,hx⟩:=avr1 hv
 have hx':=rd_ok c.hok hlh h hx (ls':=ls) (fun _ h=>h)
 have hcl:=hfn w (Mu M (kill hp ls) ψ) ⟨Nat.le_refl _,fun _ _ _=>rfl,fun b _ q=>kill_mu b q,kill_bound c.hok ls⟩ d v hx'.1 hx'.2
 refine callf_ok ho e hfo ?_
 rw[show As.map a.eval++cap= #[v]++cap by congr 1;apply Array.ext';simpa using hAs]
 refine Calls.mono hcl ?_
 rintro en w' ⟨u,rfl,h1,h2,hb⟩
 refine ⟨u,rfl,?_⟩
 by_cases hs:r.scalar=true
 ·rw[if_pos hs];exact c.quiet hb ⟨h1,scalar_rd hs h2⟩
 ·rw[if_neg hs];exact c.kills hb ⟨h1,h2⟩
theorem call2_ok {Y:Operand} {As:Array Operand} {ts:Array TypeId} {ty tz r:Ty} {F:ty.den→tz.den→r.den} {d:ty.den} {e:tz.den} {ls ls2:List Nat} {x y:AV} (ho:o.op= .call ⟨.value Y,As,ts⟩) (hlh:∀l ob,lh l=some ob→hp l=some ob) (hY:AVR P hp ψ w (Mu M hp ψ) (.val (.fn2 ty tz r) F) (a.eval Y))
  (hv:AVRs P hp ψ w (Mu M hp ψ) [x,y] (As.toList.map a.eval)) (h:rd lh ty x=some (d,ls)) (h':rd lh tz y=some (e,ls2)) (c:Ctx P B M hp ψ w fr):Does P o a w (OpPost P B M hp ψ w fr ⟨.val r (F d e),if r.scalar then [] else ls++ls2,none⟩):=by
 obtain ⟨f,cap,e',hfo,hfn⟩:=(RdV.one (t:=.fn2 ty tz r) hY rfl rfl).1
 simp only[List.cons.injEq,and_true] at e'
 obtain ⟨v,v2,hAs,hx,hy⟩:=avr2 hv
 have hx':=rd_ok c.hok hlh h hx (ls':=ls++ls2) (fun _ h=>List.mem_append_left _ h)
 have hy':=rd_ok c.hok hlh h' hy (ls':=ls++ls2) (fun _ h=>List.mem_append_right _ h)
 have hcl:=hfn w (Mu M (kill hp (ls++ls2)) ψ) ⟨Nat.le_refl _,fun _ _ _=>rfl,fun b _ q=>kill_mu b q,kill_bound c.hok _⟩ d v e v2 hx'.1 hx'.2 hy'.1 hy'.2
 refine callf_ok ho e' hfo ?_
 rw[show As.map a.eval++cap= #[v,v2]++cap by congr 1;apply Array.ext';simpa using hAs]
 refine Calls.mono hcl ?_
 rintro en w' ⟨u,rfl,h1,h2,hb⟩
 refine ⟨u,rfl,?_⟩
 by_cases hs:r.scalar=true
 ·rw[if_pos hs];exact c.quiet hb ⟨h1,scalar_rd hs h2⟩
 ·rw[if_neg hs];exact c.kills hb ⟨h1,h2⟩
theorem avs0 {hp:Hp} {M':Nat→Prop} {avs:List AV} (h:AVRs P hp ψ w M' avs []):avs=[]:=by
 cases avs with
 |nil=>rfl
 |cons x r=>obtain ⟨_,_,q,_⟩:=h;cases q
theorem avs1 {hp:Hp} {M':Nat→Prop} {avs:List AV} {v:Value} (h:AVRs P hp ψ w M' avs [v]):∃x,avs=[x]∧AVR P hp ψ w M' x v:=by
 cases avs with
 |nil=>cases (show _=_ from h)
 |cons x r=>
  obtain ⟨_,_,q,q1,q2⟩:=h;injection q with q q';subst q q';exact ⟨x,by rw[avs0 q2],q1⟩
theorem avs2 {hp:Hp} {M':Nat→Prop} {avs:List AV} {v u:Value} (h:AVRs P hp ψ w M' avs [v,u]):∃x y,avs=[x,y]∧AVR P hp ψ w M' x v∧AVR P hp ψ w M' y u:=by
 cases avs with
 |nil=>cases (show _=_ from h)
 |cons x r=>
  obtain ⟨_,_,q,q1,q2⟩:=h;injection q with q q';subst q q';obtain ⟨y,rfl,q3⟩:=avs1 q2;exact ⟨x,y,rfl,q1,q3⟩
theorem avsS {hp:Hp} {M':Nat→Prop} {avs:List AV} {v:Value} {vs:List Value} (h:AVRs P hp ψ w M' avs (v::vs)):∃x r,avs=x::r∧AVR P hp ψ w M' x v∧AVRs P hp ψ w M' r vs:=by
 cases avs with
 |nil=>cases (show _=_ from h)
 |cons x r=>
  obtain ⟨_,_,q,q1,q2⟩:=h;injection q with q q';subst q q';exact ⟨x,r,rfl,q1,q2⟩
theorem avIntK_some {x:AV} {n:IntKind×Int} (h:avIntK x=some n):x= .val (.int n.1) n.2:=by
 unfold avIntK at h;split at h
 ·injection h with h;subst h;rfl
 ·cases h
theorem avBool_some {x:AV} {b:Bool} (h:avBool x=some b):x= .val .bool b:=by
 unfold avBool at h;split at h
 ·injection h with h;subst h;rfl
 ·cases h
theorem isNil_eq {X:Operand} (h:isNil X=true):X= .const (.slice none 0 0):=by
 unfold isNil at h;split at h
 ·rfl
 ·cases h
theorem nilck_ok {X:Operand} {x:AV} {p:Prop} {eff:Eff} (ho:o.op= .nilCheck X) (hlh:∀l ob,lh l=some ob→hp l=some ob) (hX:AVR P hp ψ w (Mu M hp ψ) x (a.eval X)) (h:opx C lh fr .nilck [x]=some (p,eff)) (c:Ctx P B M hp ψ w fr):Does P o a w (OpPost P B M hp ψ w fr eff):=by
 have fin:∀ad,a.eval X= .pointer (some ad)→eff=pur x→Does P o a w (OpPost P B M hp ψ w fr eff):=by
  rintro ad e rfl;exact does_run (nilck_run ho e) (c.pure (by rw[←e];exact hX))
 cases x with
 |ptr l o'=>
  simp only[opx,Option.map_eq_some_iff,Prod.mk.injEq] at h;obtain ⟨ob,hl,_,rfl⟩:=h;obtain ⟨b,e⟩:=live_ptr c.hok (hlh _ _ hl) hX;exact fin _ e rfl
 |eptr l i o'=>
  simp only[opx] at h;split at h
  ·rename_i hl;simp only[Option.some.injEq,Prod.mk.injEq] at h;obtain ⟨_,rfl⟩:=h;obtain ⟨g,n,cp,_,e⟩:=hX _ _ _ (hlh _ _ hl);exact fin _ e rfl
  ·cases h
 |val t d=>
  cases t with
  |ptr t=>
   simp only[opx,Option.some.injEq,Prod.mk.injEq] at h;obtain ⟨_,rfl⟩:=h;obtain ⟨b,off,cc,e,_⟩:=avr_ptr hX;exact fin _ e rfl
  |_=>simp[opx] at h
 |_=>simp[opx] at h
theorem mapset_all {T:TypeId} {k:IntKind} {t:Ty} {X I Y:Operand} {z0 z1 z2:XA} {avs:List AV} {p:Prop} {eff:Eff} (ho:o.op= .mapUpdate T X I Y∨o.op= .insert T X I Y) (h1:opOk X z0=true) (h2:opOk I z1=true) (h3:opOk Y z2=true) (h4:mapOk P T k t=true) (hlh:∀l ob,lh l=some ob→hp l=some ob)
  (hv:AVRs P hp ψ w (Mu M hp ψ) avs [a.eval z0.opnd,a.eval z1.opnd,a.eval z2.opnd]) (h:opx C lh fr (.mapset k t) avs=some (p,eff)) (c:Ctx P B M hp ψ w fr):Does P o a w (OpPost P B M hp ψ w fr eff):=by
 obtain ⟨x,r,rfl,q,hv⟩:=avsS hv
 obtain ⟨y,u,rfl,q2,q3⟩:=avs2 hv
 rw[←(opOk_eq h1).1] at q
 rw[←(opOk_eq h2).1] at q2
 rw[←(opOk_eq h3).1] at q3
 simp only[opx] at h
 split at h
 ·rename_i l xs hm
  split at h
  ·rename_i i hi
   split at h
   ·rename_i t' d
    simp only[Option.map_eq_some_iff,Prod.mk.injEq] at h
    obtain ⟨e,he,_,rfl⟩:=h
    refine mapset_ok ho h4 hlh q q2 ?_ hm hi c
    obtain ⟨qq,qe⟩:=cast?_some he
    subst qq
    simp only at qe;subst qe
    exact q3
   ·cases h
  ·cases h
 ·cases h
theorem isnil_ok {op:BinOp} {neg:Bool} {t:Ty} {T:TypeId} {X Y:Operand} {yt:TypeId} {x:AV} {xs:List t.den} {ls:List Nat} (ho:o.op= .binOp op T X Y yt) (hop:op=if neg then .neq else .eql) (hY:isNil Y=true) (hT:(match P.underlying T with|some (.slice _)=>true|_=>false)=true)
  (hlh:∀l ob,lh l=some ob→hp l=some ob) (hX:AVR P hp ψ w (Mu M hp ψ) x (a.eval X)) (h:rd lh (.sl t) x=some (xs,ls)) (c:Ctx P B M hp ψ w fr):Does P o a w (OpPost P B M hp ψ w fr (pur (if neg then .ub True (xs=[]) else .ub (xs=[]) True))):=by
 subst hop
 have hy:a.eval Y= .slice none 0 0:=by rw[isNil_eq hY];rfl
 have r:=rd_ok c.hok hlh h hX (ls':=ls) (fun _ h=>h)
 obtain ⟨A,n,cp,e1,h1,_,_,h4⟩:=(RdV.one r rfl rfl).1
 simp only[List.cons.injEq,and_true] at e1
 split at hT
 ·rename_i e hu
  have he:(Op.equal T (.slice A n cp) (.slice none 0 0)).run P w= .ok A.isNone w:=by
   unfold Op.equal Op.maxDepth;rw[show (10000:Nat)=9999+1 from rfl,Op.equalIn];cases A<;>simp[run_underlying hu]
  have hA:A.isNone=true→xs=[]:=fun hA=>by
   rcases h4 with h4|⟨b,off,cc,e',_⟩
   ·exact List.eq_nil_of_length_eq_zero (by omega)
   ·rw[e'] at hA;cases hA
  cases neg with
  |false=>
   refine does_run (v:=.bool A.isNone) (w':=w) ?_ (c.pure ⟨A.isNone,rfl,hA,fun _=>trivial⟩)
   unfold execOp;simp only[ho,e1,hy,binOp,eqGuard,if_false,Bool.false_eq_true];simp[he]
  |true=>
   refine does_run (v:=.bool !A.isNone) (w':=w) ?_ (c.pure ⟨!A.isNone,rfl,fun _=>trivial,fun hb=>hA (by simpa using hb)⟩)
   unfold execOp;simp only[ho,e1,hy,binOp,eqGuard,if_true];simp[he]
 ·cases hT
theorem isnil_cst {op:BinOp} {neg:Bool} {T:TypeId} {X Y:Operand} {yt:TypeId} (ho:o.op= .binOp op T X Y yt) (hop:op=if neg then .neq else .eql) (hY:isNil Y=true) (hT:(match P.underlying T with|some (.slice _)=>true|_=>false)=true)
  (e1:a.eval X= .slice none 0 0) (c:Ctx P B M hp ψ w fr):Does P o a w (OpPost P B M hp ψ w fr (pur (.val .bool (!neg)))):=by
 subst hop
 have hy:a.eval Y= .slice none 0 0:=by rw[isNil_eq hY];rfl
 split at hT
 ·rename_i e hu
  have he:(Op.equal T (.slice none 0 0) (.slice none 0 0)).run P w= .ok true w:=by
   unfold Op.equal Op.maxDepth;rw[show (10000:Nat)=9999+1 from rfl,Op.equalIn];simp[run_underlying hu]
  cases neg with
  |false=>
   refine does_run (v:=.bool true) (w':=w) ?_ (c.pure bool_avr)
   unfold execOp;simp only[ho,e1,hy,binOp,eqGuard,if_false,Bool.false_eq_true];simp[he]
  |true=>
   refine does_run (v:=.bool false) (w':=w) ?_ (c.pure bool_avr)
   unfold execOp;simp only[ho,e1,hy,binOp,eqGuard,if_true];simp[he]
 ·cases hT
theorem isnil_nnl {op:BinOp} {neg:Bool} {T:TypeId} {X Y:Operand} {yt:TypeId} {A:Addr} (ho:o.op= .binOp op T X Y yt) (hop:op=if neg then .neq else .eql) (hY:isNil Y=true) (hT:(match P.underlying T with|some (.slice _)=>true|_=>false)=true)
  (e1:a.eval X= .slice (some A) 0 0) (c:Ctx P B M hp ψ w fr):Does P o a w (OpPost P B M hp ψ w fr (pur (.val .bool neg))):=by
 subst hop
 have hy:a.eval Y= .slice none 0 0:=by rw[isNil_eq hY];rfl
 split at hT
 ·rename_i e hu
  have he:(Op.equal T (.slice (some A) 0 0) (.slice none 0 0)).run P w= .ok false w:=by
   unfold Op.equal Op.maxDepth;rw[show (10000:Nat)=9999+1 from rfl,Op.equalIn];simp[run_underlying hu]
  cases neg with
  |false=>
   refine does_run (v:=.bool false) (w':=w) ?_ (c.pure bool_avr)
   unfold execOp;simp only[ho,e1,hy,binOp,eqGuard,if_false,Bool.false_eq_true];simp[he]
  |true=>
   refine does_run (v:=.bool true) (w':=w) ?_ (c.pure bool_avr)
   unfold execOp;simp only[ho,e1,hy,binOp,eqGuard,if_true];simp[he]
 ·cases hT
theorem isnil_known {neg:Bool} {t:Ty} {xs:List t.den} (hx:xs≠[]) (h:Does P o a w (OpPost P B M hp ψ w fr (pur (if neg then .ub True (xs=[]) else .ub (xs=[]) True)))):Does P o a w (OpPost P B M hp ψ w fr (pur (.val .bool neg))):=by
 intro r K Q hk;refine h r K Q fun v w' ⟨ψ',h1,h2,h3,h4⟩=>hk v w' ⟨ψ',h1,h2,?_,h4⟩;have h3:AVR P hp ψ' w' (Mu M hp ψ') (if neg then .ub True (xs=[]) else .ub (xs=[]) True) v:=h3;cases neg with
 |false=>
  obtain ⟨b,rfl,q1,q2⟩:=h3;cases b with
  |false=>exact bool_avr
  |true=>exact absurd (q1 rfl) hx
 |true=>
  obtain ⟨b,rfl,q1,q2⟩:=h3;cases b with
  |true=>exact bool_avr
  |false=>exact absurd (q2 rfl) hx
set_option maxHeartbeats 1000000 in
theorem opx_ok (hC:∀e∈C,Con P e) (hlh:∀l ob,lh l=some ob→hp l=some ob) {x:XOp} {args:List XA} {avs:List AV} {p:Prop} {eff:Eff} (hchk:opChk P o.op x args=true) (hv:AVRs P hp ψ w (Mu M hp ψ) avs (args.map fun z=>a.eval z.opnd))
  (hf:fr∉AV.locsL avs) (hx:x≠ .pick) (h:opx C lh fr x avs=some (p,eff)) (hp':p) (c:Ctx P B M hp ψ w fr):Does P o a w (OpPost P B M hp ψ w fr eff):=by
 cases ho:o.op<;>rw[ho] at hchk<;>cases x<;>(try (simp[opChk] at hchk;done))
 case pick.pick=>exact absurd rfl hx
 case move.mv X=>
  cases args with
  |nil=>simp[opChk] at hchk
  |cons z0 args=>
  cases args with
  |cons _ _=>simp[opChk] at hchk
  |nil=>
  simp only[opChk,Bool.and_eq_true,beq_iff_eq,bne_iff_ne] at hchk
  simp only[List.map_cons,List.map_nil] at hv
  obtain ⟨x,rfl,q⟩:=avs1 hv
  obtain ⟨e,_⟩:=opOk_eq hchk
  simp only[opx,Option.some.injEq,Prod.mk.injEq] at h
  obtain ⟨_,rfl⟩:=h
  exact does_run (v:=a.eval X) (w':=w) (by unfold execOp;simp only[ho];rfl) (c.pure (by rw[e];exact q))
 case move.nilrow X e t=>
  cases args with
  |cons _ _=>simp[opChk] at hchk
  |nil=>
  simp only[opChk,Bool.and_eq_true,beq_iff_eq,bne_iff_ne] at hchk
  simp only[List.map_cons,List.map_nil] at hv
  obtain rfl:=avs0 hv
  simp only[opx,Option.some.injEq,Prod.mk.injEq] at h
  obtain ⟨_,rfl⟩:=h
  exact nilrow_ok (.inl ho) (isNil_eq hchk) c
 case assign.mv X=>
  cases args with
  |nil=>simp[opChk] at hchk
  |cons z0 args=>
  cases args with
  |cons _ _=>simp[opChk] at hchk
  |nil=>
  simp only[opChk,Bool.and_eq_true,beq_iff_eq,bne_iff_ne] at hchk
  simp only[List.map_cons,List.map_nil] at hv
  obtain ⟨x,rfl,q⟩:=avs1 hv
  obtain ⟨e,_⟩:=opOk_eq hchk
  simp only[opx,Option.some.injEq,Prod.mk.injEq] at h
  obtain ⟨_,rfl⟩:=h
  exact does_run (v:=a.eval X) (w':=w) (by unfold execOp;simp only[ho];rfl) (c.pure (by rw[e];exact q))
 case assign.nilrow X e t=>
  cases args with
  |cons _ _=>simp[opChk] at hchk
  |nil=>
  simp only[opChk,Bool.and_eq_true,beq_iff_eq,bne_iff_ne] at hchk
  simp only[List.map_cons,List.map_nil] at hv
  obtain rfl:=avs0 hv
  simp only[opx,Option.some.injEq,Prod.mk.injEq] at h
  obtain ⟨_,rfl⟩:=h
  exact nilrow_ok (.inr ho) (isNil_eq hchk) c
 case alloc.alloc T T2 t=>
  cases args with
  |cons _ _=>simp[opChk] at hchk
  |nil=>
  simp only[opChk,Bool.and_eq_true,beq_iff_eq,bne_iff_ne] at hchk
  simp only[List.map_cons,List.map_nil] at hv
  obtain rfl:=avs0 hv
  obtain ⟨e,h1⟩:=hchk
  subst e
  simp only[opx,Option.some.injEq,Prod.mk.injEq] at h
  obtain ⟨_,rfl⟩:=h
  exact alloc_ok ho h1 c
 case alloc.allocz T T2 m=>
  cases args with
  |cons _ _=>simp[opChk] at hchk
  |nil=>
  simp only[opChk,Bool.and_eq_true,beq_iff_eq,bne_iff_ne] at hchk
  simp only[List.map_cons,List.map_nil] at hv
  obtain rfl:=avs0 hv
  obtain ⟨e,h1⟩:=hchk
  subst e
  simp only[opx,Option.some.injEq,Prod.mk.injEq] at h
  obtain ⟨_,rfl⟩:=h
  exact allocz_ok ho h1 c
 case box.box T X T2=>
  cases args with
  |nil=>simp[opChk] at hchk
  |cons z0 args=>
  cases args with
  |cons _ _=>simp[opChk] at hchk
  |nil=>
  simp only[opChk,Bool.and_eq_true,beq_iff_eq,bne_iff_ne] at hchk
  simp only[List.map_cons,List.map_nil] at hv
  obtain ⟨x,rfl,q⟩:=avs1 hv
  obtain ⟨e,h1⟩:=hchk
  subst e
  obtain ⟨e,_⟩:=opOk_eq h1
  simp only[opx,Option.map_eq_some_iff,Prod.mk.injEq] at h
  obtain ⟨cs,hcs,_,rfl⟩:=h
  rw[←e] at q
  exact box_ok ho hlh q (by simpa [AV.locsL] using hf) hcs c
 case load.load T X t=>
  cases args with
  |nil=>simp[opChk] at hchk
  |cons z0 args=>
  cases args with
  |cons _ _=>simp[opChk] at hchk
  |nil=>
  simp only[opChk,Bool.and_eq_true,beq_iff_eq,bne_iff_ne] at hchk
  simp only[List.map_cons,List.map_nil] at hv
  obtain ⟨x,rfl,q⟩:=avs1 hv
  obtain ⟨h1,h2⟩:=hchk
  obtain ⟨e,_⟩:=opOk_eq h2
  simp only[opx,Option.map_eq_some_iff,Prod.mk.injEq] at h
  obtain ⟨y,hy,rfl,rfl⟩:=h
  rw[←e] at q
  exact load_ok ho h1 hlh q hy hp' c
 case store.store T X Y t=>
  cases args with
  |nil=>simp[opChk] at hchk
  |cons z0 args=>
  cases args with
  |nil=>simp[opChk] at hchk
  |cons z1 args=>
  cases args with
  |cons _ _=>simp[opChk] at hchk
  |nil=>
  simp only[opChk,Bool.and_eq_true,beq_iff_eq,bne_iff_ne] at hchk
  simp only[List.map_cons,List.map_nil] at hv
  obtain ⟨x,y,rfl,q,q2⟩:=avs2 hv
  obtain ⟨⟨h1,h2⟩,h3⟩:=hchk
  obtain ⟨e,_⟩:=opOk_eq h2
  obtain ⟨e2,_⟩:=opOk_eq h3
  simp only[opx] at h
  rw[←e] at q
  rw[←e2] at q2
  simp only[AV.locsL,List.append_nil,List.mem_append,not_or] at hf
  exact store_ok ho h1 hlh q q2 hf.2 h hp' c
 case nilCheck.nilck X=>
  cases args with
  |nil=>simp[opChk] at hchk
  |cons z0 args=>
  cases args with
  |cons _ _=>simp[opChk] at hchk
  |nil=>
  simp only[opChk,Bool.and_eq_true,beq_iff_eq,bne_iff_ne] at hchk
  simp only[List.map_cons,List.map_nil] at hv
  obtain ⟨x,rfl,q⟩:=avs1 hv
  obtain ⟨e,_⟩:=opOk_eq hchk
  rw[←e] at q
  exact nilck_ok ho hlh q h c
 case binOp.bin op T X Y ty op2=>
  cases args with
  |nil=>simp[opChk] at hchk
  |cons z0 args=>
  cases args with
  |nil=>simp[opChk] at hchk
  |cons z1 args=>
  cases args with
  |cons _ _=>simp[opChk] at hchk
  |nil=>
  simp only[opChk,Bool.and_eq_true,beq_iff_eq,bne_iff_ne] at hchk
  simp only[List.map_cons,List.map_nil] at hv
  obtain ⟨x,y,rfl,q,q2⟩:=avs2 hv
  obtain ⟨⟨e0,h1⟩,h2⟩:=hchk
  subst e0
  obtain ⟨e,_⟩:=opOk_eq h1
  obtain ⟨e2,_⟩:=opOk_eq h2
  simp only[opx,Option.map_eq_some_iff,Prod.mk.injEq] at h
  obtain ⟨r,hr,rfl,rfl⟩:=h
  rw[←e] at q
  rw[←e2] at q2
  exact bin_ok ho q q2 hr hp' c
 case makeMap.mkmap T r k t=>
  cases r with
  |some _=>simp[opChk] at hchk
  |none=>
  cases args with
  |cons _ _=>simp[opChk] at hchk
  |nil=>
  simp only[opChk] at hchk
  simp only[List.map_nil] at hv
  obtain rfl:=avs0 hv
  simp only[opx,Option.some.injEq,Prod.mk.injEq] at h
  obtain ⟨_,rfl⟩:=h
  exact mkmap_ok ho c
 case lookup.mapget T X I ok' k t ok=>
  cases args with
  |nil=>simp[opChk] at hchk
  |cons z0 args=>
  cases args with
  |nil=>simp[opChk] at hchk
  |cons z1 args=>
  cases args with
  |cons _ _=>simp[opChk] at hchk
  |nil=>
  simp only[opChk,Bool.and_eq_true,beq_iff_eq] at hchk
  simp only[List.map_cons,List.map_nil] at hv
  obtain ⟨x,y,rfl,q,q2⟩:=avs2 hv
  obtain ⟨⟨⟨h1,h2⟩,h3⟩,rfl⟩:=hchk
  obtain ⟨e,_⟩:=opOk_eq h1
  obtain ⟨e2,_⟩:=opOk_eq h2
  simp only[opx] at h
  rw[←e] at q
  rw[←e2] at q2
  split at h
  ·rename_i l xs hm
   simp only[Option.map_eq_some_iff,Prod.mk.injEq] at h
   obtain ⟨i,hi,_,rfl⟩:=h
   exact mapget_ok ho h3 hlh q q2 hm hi c
  ·cases h
 case mapUpdate.mapset T X I Y k t=>
  cases args with
  |nil=>simp[opChk] at hchk
  |cons z0 args=>
  cases args with
  |nil=>simp[opChk] at hchk
  |cons z1 args=>
  cases args with
  |nil=>simp[opChk] at hchk
  |cons z2 args=>
  cases args with
  |cons _ _=>simp[opChk] at hchk
  |nil=>
  simp only[opChk,Bool.and_eq_true] at hchk
  simp only[List.map_cons,List.map_nil] at hv
  obtain ⟨⟨⟨h1,h2⟩,h3⟩,h4⟩:=hchk
  exact mapset_all (.inl ho) h1 h2 h3 h4 hlh hv h c
 case insert.mapset T X I Y k t=>
  cases args with
  |nil=>simp[opChk] at hchk
  |cons z0 args=>
  cases args with
  |nil=>simp[opChk] at hchk
  |cons z1 args=>
  cases args with
  |nil=>simp[opChk] at hchk
  |cons z2 args=>
  cases args with
  |cons _ _=>simp[opChk] at hchk
  |nil=>
  simp only[opChk,Bool.and_eq_true] at hchk
  simp only[List.map_cons,List.map_nil] at hv
  obtain ⟨⟨⟨h1,h2⟩,h3⟩,h4⟩:=hchk
  exact mapset_all (.inr ho) h1 h2 h3 h4 hlh hv h c
 case range.mrange T X k t=>
  cases args with
  |nil=>simp[opChk] at hchk
  |cons z0 args=>
  cases args with
  |cons _ _=>simp[opChk] at hchk
  |nil=>
  simp only[opChk,Bool.and_eq_true] at hchk
  simp only[List.map_cons,List.map_nil] at hv
  obtain ⟨x,rfl,q⟩:=avs1 hv
  obtain ⟨h1,h2⟩:=hchk
  obtain ⟨e,_⟩:=opOk_eq h1
  rw[←e] at q
  simp only[opx,Option.map_eq_some_iff,Prod.mk.injEq] at h
  obtain ⟨⟨d,ls⟩,hy,rfl,rfl⟩:=h
  exact mrange_ok ho h2 hlh q hy c
 case entry.entry X=>
  cases args with
  |nil=>simp[opChk] at hchk
  |cons z0 args=>
  cases args with
  |cons _ _=>simp[opChk] at hchk
  |nil=>
  simp only[opChk] at hchk
  simp only[List.map_cons,List.map_nil] at hv
  obtain ⟨x,rfl,q⟩:=avs1 hv
  obtain ⟨e,_⟩:=opOk_eq hchk
  rw[←e] at q
  simp only[opx] at h
  split at h
  ·split at h
   ·rename_i hl
    simp only[Option.some.injEq,Prod.mk.injEq] at h
    obtain ⟨rfl,rfl⟩:=h
    exact entry_ok ho hlh q hl c
   ·cases h
  ·cases h
 case call.mapdel cl k t=>
  obtain ⟨cal,As,ts⟩:=cl
  cases cal<;>(try (simp[opChk] at hchk;done))
  rename_i bb
  cases bb<;>(try (simp[opChk] at hchk;done))
  cases args with
  |nil=>simp[opChk] at hchk
  |cons z0 args=>
  cases args with
  |nil=>simp[opChk] at hchk
  |cons z1 args=>
  cases args with
  |cons _ _=>simp[opChk] at hchk
  |nil=>
  simp only[opChk,Bool.and_eq_true] at hchk
  simp only[List.map_cons,List.map_nil] at hv
  obtain ⟨x,y,rfl,q,q2⟩:=avs2 hv
  obtain ⟨h1,h2⟩:=hchk
  have hm:=opsOk_eq h1
  obtain ⟨As⟩:=As
  simp only[List.map_cons,List.map_nil] at hm
  subst hm
  split at h2<;>(try (cases h2;done))
  rename_i T hts
  simp only[opx] at h
  split at h
  ·rename_i l xs hmo
   simp only[Option.map_eq_some_iff,Prod.mk.injEq] at h
   obtain ⟨i,hi,_,rfl⟩:=h
   exact mapdel_ok ho hts h2 hlh q q2 hmo hi c
  ·cases h
 case binOp.isnil op T X Y ty neg t=>
  cases args with
  |nil=>simp[opChk] at hchk
  |cons z0 args=>
  cases args with
  |cons _ _=>simp[opChk] at hchk
  |nil=>
  simp only[opChk,Bool.and_eq_true,beq_iff_eq,bne_iff_ne] at hchk
  simp only[List.map_cons,List.map_nil] at hv
  obtain ⟨x,rfl,q⟩:=avs1 hv
  obtain ⟨⟨⟨e0,h1⟩,h2⟩,h3⟩:=hchk
  obtain ⟨e,_⟩:=opOk_eq h1
  simp only[opx,Option.map_eq_some_iff,Prod.mk.injEq] at h
  obtain ⟨y,hr,_,rfl⟩:=h
  rw[←e] at q
  cases x with
  |cst u=>
   simp only[nilx] at hr
   split at hr
   ·rename_i hu
    have e2:a.eval X= .slice none 0 0:=by
     have q:a.eval X=u:=q;rw[q];unfold isNilV at hu;split at hu
     ·rfl
     ·cases hu
    simp only[Option.some.injEq] at hr
    subst hr
    exact isnil_cst ho e0 h2 h3 e2 c
   ·cases hr
  |nnl=>
   simp only[nilx,Option.some.injEq] at hr
   subst hr
   obtain ⟨A,e2⟩:=q
   exact isnil_nnl ho e0 h2 h3 e2 c
  |_=>
   simp only[nilx,Option.map_eq_some_iff] at hr
   obtain ⟨⟨xs,ls⟩,hr,rfl⟩:=hr
   exact isnil_ok ho e0 h2 h3 hlh q hr c
 case binOp.isnilk op T X Y ty neg t=>
  cases args with
  |nil=>simp[opChk] at hchk
  |cons z0 args=>
  cases args with
  |cons _ _=>simp[opChk] at hchk
  |nil=>
  simp only[opChk,Bool.and_eq_true,beq_iff_eq,bne_iff_ne] at hchk
  simp only[List.map_cons,List.map_nil] at hv
  obtain ⟨x,rfl,q⟩:=avs1 hv
  obtain ⟨⟨⟨e0,h1⟩,h2⟩,h3⟩:=hchk
  obtain ⟨e,_⟩:=opOk_eq h1
  simp only[opx,Option.map_eq_some_iff,Prod.mk.injEq] at h
  obtain ⟨⟨p0,y⟩,hr,hpe,rfl⟩:=h
  subst hpe
  rw[←e] at q
  cases x with
  |cst u=>
   simp only[nilkx] at hr
   split at hr
   ·rename_i hu
    have e2:a.eval X= .slice none 0 0:=by
     have q:a.eval X=u:=q;rw[q];unfold isNilV at hu;split at hu
     ·rfl
     ·cases hu
    simp only[Option.some.injEq,Prod.mk.injEq] at hr
    obtain ⟨_,rfl⟩:=hr
    exact isnil_cst ho e0 h2 h3 e2 c
   ·cases hr
  |nnl=>
   simp only[nilkx,Option.some.injEq,Prod.mk.injEq] at hr
   obtain ⟨_,rfl⟩:=hr
   obtain ⟨A,e2⟩:=q
   exact isnil_nnl ho e0 h2 h3 e2 c
  |_=>
   simp only[nilkx,Option.map_eq_some_iff,Prod.mk.injEq] at hr
   obtain ⟨⟨xs,ls⟩,hr,rfl,rfl⟩:=hr
   exact isnil_known hp' (isnil_ok ho e0 h2 h3 hlh q hr c)
 case binOp.beq op T X Y ty neg t=>
  cases args with
  |nil=>simp[opChk] at hchk
  |cons z0 args=>
  cases args with
  |nil=>simp[opChk] at hchk
  |cons z1 args=>
  cases args with
  |cons _ _=>simp[opChk] at hchk
  |nil=>
  simp only[opChk,Bool.and_eq_true,beq_iff_eq,bne_iff_ne] at hchk
  simp only[List.map_cons,List.map_nil] at hv
  obtain ⟨x,y,rfl,q,q2⟩:=avs2 hv
  obtain ⟨⟨⟨e0,h1⟩,h2⟩,h3⟩:=hchk
  obtain ⟨e,_⟩:=opOk_eq h1
  obtain ⟨e2,_⟩:=opOk_eq h2
  simp only[opx,Option.map_eq_some_iff,Prod.mk.injEq] at h
  obtain ⟨r,hr,_,rfl⟩:=h
  rw[←e] at q
  rw[←e2] at q2
  exact beq_ok ho e0 h3 q q2 hr c
 case binOp.steq op T X Y ty neg t=>
  cases args with
  |nil=>simp[opChk] at hchk
  |cons z0 args=>
  cases args with
  |nil=>simp[opChk] at hchk
  |cons z1 args=>
  cases args with
  |cons _ _=>simp[opChk] at hchk
  |nil=>
  simp only[opChk,Bool.and_eq_true,beq_iff_eq,bne_iff_ne] at hchk
  simp only[List.map_cons,List.map_nil] at hv
  obtain ⟨x,y,rfl,q,q2⟩:=avs2 hv
  obtain ⟨⟨⟨⟨⟨e0,h1⟩,h2⟩,h3⟩,h4⟩,h5⟩:=hchk
  obtain ⟨e,_⟩:=opOk_eq h1
  obtain ⟨e2,_⟩:=opOk_eq h2
  simp only[opx,Option.map_eq_some_iff,Prod.mk.injEq] at h
  obtain ⟨r,hr,_,rfl⟩:=h
  rw[←e] at q
  rw[←e2] at q2
  exact steq_ok ho e0 h3 h4 (by simpa using h5) hlh q q2 hr c
 case unOp.not op T X=>
  cases args with
  |nil=>simp[opChk] at hchk
  |cons z0 args=>
  cases args with
  |cons _ _=>simp[opChk] at hchk
  |nil=>
  cases op<;>(try (simp[opChk] at hchk;done))
  simp only[opChk,Bool.and_eq_true,beq_iff_eq,bne_iff_ne] at hchk
  simp only[List.map_cons,List.map_nil] at hv
  obtain ⟨x,rfl,q⟩:=avs1 hv
  obtain ⟨e,_⟩:=opOk_eq hchk
  rw[←e] at q
  simp only[opx,Option.map_eq_some_iff,Prod.mk.injEq] at h
  obtain ⟨b,hb,_,rfl⟩:=h
  obtain rfl:=avBool_some hb
  exact does_run (v:=.bool (!b)) (w':=w) (by unfold execOp;simp[ho,avr_bool q,Op.unary]) (c.pure bool_avr)
 case unOp.neg op T X=>
  cases args with
  |nil=>simp[opChk] at hchk
  |cons z0 args=>
  cases args with
  |cons _ _=>simp[opChk] at hchk
  |nil=>
  cases op<;>(try (simp[opChk] at hchk;done))
  simp only[opChk,Bool.and_eq_true,beq_iff_eq,bne_iff_ne] at hchk
  simp only[List.map_cons,List.map_nil] at hv
  obtain ⟨x,rfl,q⟩:=avs1 hv
  obtain ⟨e,_⟩:=opOk_eq hchk
  rw[←e] at q
  simp only[opx,Option.map_eq_some_iff,Prod.mk.injEq] at h
  obtain ⟨⟨k,n⟩,hb,_,rfl⟩:=h
  obtain rfl:=avIntK_some hb
  exact does_run (v:=.int k (k.wrap (0-n))) (w':=w) (by unfold execOp;simp[ho,(avr_int q).1,Op.unary,Op.intArith]) (c.pure (int_avr (wrap_range _ _)))
 case convert.conv S D X k=>
  cases args with
  |nil=>simp[opChk] at hchk
  |cons z0 args=>
  cases args with
  |cons _ _=>simp[opChk] at hchk
  |nil=>
  simp only[opChk,Bool.and_eq_true,beq_iff_eq,bne_iff_ne] at hchk
  simp only[List.map_cons,List.map_nil] at hv
  obtain ⟨x,rfl,q⟩:=avs1 hv
  obtain ⟨⟨h1,h2⟩,h3⟩:=hchk
  obtain ⟨e,_⟩:=opOk_eq h1
  rw[←e] at q
  simp only[opx,Option.map_eq_some_iff,Prod.mk.injEq] at h
  obtain ⟨n,hb,_,rfl⟩:=h
  obtain ⟨k0,rfl⟩:=avInt_some hb
  split at h2<;>(try (cases h2;done))
  rename_i hS
  split at h3<;>(try (cases h3;done))
  rename_i hD
  simp only[beq_iff_eq] at h3
  subst h3
  exact does_run (v:=.int k (k.wrap n)) (w':=w) (by unfold execOp;simp[ho,(avr_int q).1,convert,run_underlying hS,run_underlying hD,Conv.intToInt]) (c.pure (int_avr (wrap_range _ _)))
 case fieldAddr.faddr T X f off t=>
  cases args with
  |nil=>simp[opChk] at hchk
  |cons z0 args=>
  cases args with
  |cons _ _=>simp[opChk] at hchk
  |nil=>
  simp only[opChk,Bool.and_eq_true,beq_iff_eq,bne_iff_ne] at hchk
  simp only[List.map_cons,List.map_nil] at hv
  obtain ⟨x,rfl,q⟩:=avs1 hv
  obtain ⟨h1,h2⟩:=hchk
  obtain ⟨e,_⟩:=opOk_eq h1
  rw[←e] at q
  simp only[opx,Option.map_eq_some_iff,Prod.mk.injEq] at h
  obtain ⟨y,hy,_,rfl⟩:=h
  exact faddr_ok ho h2 hlh q hy c
 case field.field T X f off t=>
  cases args with
  |nil=>simp[opChk] at hchk
  |cons z0 args=>
  cases args with
  |cons _ _=>simp[opChk] at hchk
  |nil=>
  simp only[opChk,Bool.and_eq_true,beq_iff_eq,bne_iff_ne] at hchk
  simp only[List.map_cons,List.map_nil] at hv
  obtain ⟨x,rfl,q⟩:=avs1 hv
  obtain ⟨h1,h2⟩:=hchk
  obtain ⟨e,_⟩:=opOk_eq h1
  rw[←e] at q
  simp only[opx,Option.map_eq_some_iff,Prod.mk.injEq] at h
  obtain ⟨y,hy,_,rfl⟩:=h
  exact field_ok ho h2 q hy c
 case indexAddr.iaddr T X Y t=>
  cases args with
  |nil=>simp[opChk] at hchk
  |cons z0 args=>
  cases args with
  |nil=>simp[opChk] at hchk
  |cons z1 args=>
  cases args with
  |cons _ _=>simp[opChk] at hchk
  |nil=>
  simp only[opChk,Bool.and_eq_true,beq_iff_eq,bne_iff_ne] at hchk
  simp only[List.map_cons,List.map_nil] at hv
  obtain ⟨x,y,rfl,q,q2⟩:=avs2 hv
  obtain ⟨⟨h1,h2⟩,h3⟩:=hchk
  obtain ⟨e,_⟩:=opOk_eq h1
  obtain ⟨e2,_⟩:=opOk_eq h2
  rw[←e] at q
  rw[←e2] at q2
  simp only[opx,Option.bind_eq_some_iff,Option.map_eq_some_iff,Prod.mk.injEq] at h
  obtain ⟨i,hi,r,hr,rfl,rfl⟩:=h
  obtain ⟨k0,rfl⟩:=avInt_some hi
  exact iaddr_ok ho h3 hlh q q2 hr hp' c
 case makeSlice.mkarr T X Y e0 bytes=>
  cases args with
  |nil=>simp[opChk] at hchk
  |cons z0 args=>
  cases args with
  |nil=>simp[opChk] at hchk
  |cons z1 args=>
  cases args with
  |cons _ _=>simp[opChk] at hchk
  |nil=>
  simp only[opChk,Bool.and_eq_true,beq_iff_eq,bne_iff_ne] at hchk
  simp only[List.map_cons,List.map_nil] at hv
  obtain ⟨x,y,rfl,q,q2⟩:=avs2 hv
  obtain ⟨⟨⟨⟨⟨h1,h2⟩,h3⟩,h4⟩,h5⟩,h6⟩:=hchk
  obtain ⟨e,_⟩:=opOk_eq h1
  obtain ⟨e2,_⟩:=opOk_eq h2
  rw[←e] at q
  rw[←e2] at q2
  simp only[opx,Option.bind_eq_some_iff,Option.map_eq_some_iff,Prod.mk.injEq] at h
  obtain ⟨n,hn,m,hm,rfl,rfl⟩:=h
  obtain ⟨k0,rfl⟩:=avInt_some hn
  obtain ⟨k1,rfl⟩:=avInt_some hm
  exact mkarr_ok ho h3 h4 h5 h6 q q2 hp' c
 case makeSlice.mkslice T X Y e0 t bytes=>
  cases args with
  |nil=>simp[opChk] at hchk
  |cons z0 args=>
  cases args with
  |nil=>simp[opChk] at hchk
  |cons z1 args=>
  cases args with
  |cons _ _=>simp[opChk] at hchk
  |nil=>
  simp only[opChk,Bool.and_eq_true,beq_iff_eq,bne_iff_ne] at hchk
  simp only[List.map_cons,List.map_nil] at hv
  obtain ⟨x,y,rfl,q,q2⟩:=avs2 hv
  obtain ⟨⟨⟨⟨⟨h1,h2⟩,h3⟩,h4⟩,h5⟩,h6⟩:=hchk
  obtain ⟨e,_⟩:=opOk_eq h1
  obtain ⟨e2,_⟩:=opOk_eq h2
  rw[←e] at q
  rw[←e2] at q2
  simp only[opx,Option.bind_eq_some_iff,Option.map_eq_some_iff,Prod.mk.injEq] at h
  obtain ⟨n,hn,m,hm,rfl,rfl⟩:=h
  obtain ⟨k0,rfl⟩:=avInt_some hn
  obtain ⟨k1,rfl⟩:=avInt_some hm
  exact mkslice_ok ho h3 h4 h5 h6 q q2 hp' c
 case extract.extract X j i=>
  cases args with
  |nil=>simp[opChk] at hchk
  |cons z0 args=>
  cases args with
  |cons _ _=>simp[opChk] at hchk
  |nil=>
  simp only[opChk,Bool.and_eq_true,beq_iff_eq,bne_iff_ne] at hchk
  simp only[List.map_cons,List.map_nil] at hv
  obtain ⟨x,rfl,q⟩:=avs1 hv
  obtain ⟨e0,h1⟩:=hchk
  subst e0
  obtain ⟨e,_⟩:=opOk_eq h1
  rw[←e] at q
  simp only[opx,Option.map_eq_some_iff,Prod.mk.injEq] at h
  obtain ⟨y,hy,_,rfl⟩:=h
  unfold extx at hy
  split at hy<;>(try (cases hy;done))
  obtain ⟨us,eX,hu⟩:=q
  obtain ⟨v,hv1,hv2⟩:=hu.at hy
  have hv1':us[i]?=some v:=by simpa using hv1
  exact does_run (v:=v) (w':=w) (by unfold execOp;simp[ho,eX,Instr.extract,hv1']) (c.pure hv2)
 case build.build T parts t ps=>
  simp only[opChk,Bool.and_eq_true,beq_iff_eq,bne_iff_ne] at hchk
  obtain ⟨⟨⟨⟨h1,h2⟩,h3⟩,h4⟩,h5⟩:=hchk
  have hm:=opsOk_eq h1
  rw[show (fun z:XA=>a.eval z.opnd)=a.eval ∘ XA.opnd from rfl,←List.map_map,←hm] at hv
  simp only[opx,Option.map_eq_some_iff,Prod.mk.injEq] at h
  obtain ⟨cs,hcs,_,rfl⟩:=h
  exact build_ok ho h2 h3 h4 hlh hv hcs c
 case buildSlice.bslice T n parts e0 t n2 idx=>
  simp only[opChk,Bool.and_eq_true,beq_iff_eq,bne_iff_ne,decide_eq_true_eq] at hchk
  obtain ⟨⟨⟨⟨⟨⟨e,h1⟩,h2⟩,h3⟩,h4⟩,h5⟩,h6⟩:=hchk
  subst e h2
  have hm:=opsOk_eq h1
  rw[show (fun z:XA=>a.eval z.opnd)=a.eval ∘ XA.opnd from rfl,←List.map_map,←hm] at hv
  simp only[opx,Option.map_eq_some_iff,Prod.mk.injEq] at h
  obtain ⟨⟨xs,ls⟩,hx,_,rfl⟩:=h
  exact bslice_ok ho h3 h4 h5 h6 hlh hv hx c
 case buildSlice.nnl T n parts e0 t=>
  cases args with
  |cons _ _=>simp[opChk] at hchk
  |nil=>
  simp only[opChk,Bool.and_eq_true,beq_iff_eq,bne_iff_ne] at hchk
  obtain ⟨⟨⟨e,h1⟩,h2⟩,h3⟩:=hchk
  subst e
  cases avs with
  |cons _ _=>simp[opx] at h
  |nil=>
  simp only[opx,Option.some.injEq,Prod.mk.injEq] at h
  obtain ⟨_,rfl⟩:=h
  exact nnl_ok ho (Array.eq_empty_of_size_eq_zero h1) h2 h3 c
 case makeFunc.mkfn fn first cap f=>
  cases fn<;>(try (simp[opChk] at hchk;done))
  rename_i g
  simp only[opChk,Bool.and_eq_true,beq_iff_eq] at hchk
  obtain ⟨⟨⟨e,h0⟩,h1⟩,_⟩:=hchk
  subst e
  have hm:=opsOk_eq h1
  rw[show (fun z:XA=>a.eval z.opnd)=a.eval ∘ XA.opnd from rfl,←List.map_map,←hm] at hv
  simp only[opx,Option.some.injEq,Prod.mk.injEq] at h
  obtain ⟨_,rfl⟩:=h
  have h0':first= #[]:=by simpa using h0
  subst h0'
  refine does_run (v:=.func (.func f) #[] (cap.map a.eval)) (w':=w) (by unfold execOp;simp[ho,Instr.makeFunc]) (c.pure (av:=.clo f avs) ⟨_,rfl,?_⟩)
  simpa using hv
 case makeFunc.mkbnd fn first cap f=>
  cases fn<;>(try (simp[opChk] at hchk;done))
  rename_i g
  simp only[opChk,Bool.and_eq_true,beq_iff_eq] at hchk
  obtain ⟨⟨e,h0⟩,h1⟩:=hchk
  subst e
  have hm:=opsOk_eq h1
  rw[show (fun z:XA=>a.eval z.opnd)=a.eval ∘ XA.opnd from rfl,←List.map_map,←hm] at hv
  simp only[opx,Option.some.injEq,Prod.mk.injEq] at h
  obtain ⟨_,rfl⟩:=h
  have h0':cap= #[]:=by simpa using h0
  subst h0'
  refine does_run (v:=.func (.func f) (first.map a.eval) #[]) (w':=w) (by unfold execOp;simp[ho,Instr.makeFunc]) (c.pure (av:=.bnd f avs) ⟨_,rfl,?_⟩)
  simpa using hv
 case call.call cl f=>
  obtain ⟨cal,As,ts⟩:=cl
  cases cal<;>(try (simp[opChk] at hchk;done))
  rename_i Y
  cases Y<;>(try (simp[opChk] at hchk;done))
  rename_i g
  simp only[opChk,Bool.and_eq_true,beq_iff_eq] at hchk
  obtain ⟨⟨e,h1⟩,_⟩:=hchk
  subst e
  have hm:=opsOk_eq h1
  rw[show (fun z:XA=>a.eval z.opnd)=a.eval ∘ XA.opnd from rfl,←List.map_map,←hm] at hv
  simp only[opx] at h
  obtain ⟨hfo,hcl⟩:=call_ok hC hlh hv h hp' c
  refine callf_ok ho (cap:=#[]) rfl hfo ?_
  rw[show As.map a.eval++ #[]=(As.toList.map a.eval).toArray by apply Array.ext';simp]
  exact hcl
 case call.calld cl f=>
  obtain ⟨cal,As,ts⟩:=cl
  cases cal<;>(try (simp[opChk] at hchk;done))
  rename_i Y
  cases Y<;>(try (simp[opChk] at hchk;done))
  rename_i g
  simp only[opChk,Bool.and_eq_true,beq_iff_eq] at hchk
  obtain ⟨⟨e,h1⟩,_⟩:=hchk
  subst e
  have hm:=opsOk_eq h1
  rw[show (fun z:XA=>a.eval z.opnd)=a.eval ∘ XA.opnd from rfl,←List.map_map,←hm] at hv
  simp only[opx] at h
  obtain ⟨hfo,hcl⟩:=call_ok (fun e he=>hC e (List.mem_filter.1 he).1) hlh hv h hp' c
  refine callf_ok ho (cap:=#[]) rfl hfo ?_
  rw[show As.map a.eval++ #[]=(As.toList.map a.eval).toArray by apply Array.ext';simp]
  exact hcl
 case call.callv cl=>
  obtain ⟨cal,As,ts⟩:=cl
  cases cal<;>(try (simp[opChk] at hchk;done))
  rename_i Y
  cases args with
  |nil=>simp[opChk] at hchk
  |cons z args=>
  simp only[opChk,Bool.and_eq_true] at hchk
  obtain ⟨h0,h1⟩:=hchk
  obtain ⟨e,_⟩:=opOk_eq h0
  simp only[List.map_cons] at hv
  obtain ⟨x,r,rfl,q,hv2⟩:=avsS hv
  have hm:=opsOk_eq h1
  rw[show (fun z:XA=>a.eval z.opnd)=a.eval ∘ XA.opnd from rfl,←List.map_map,←hm] at hv2
  rw[←e] at q
  simp only[opx] at h
  unfold callvx at h
  split at h
  ·rename_i f cap
   obtain ⟨us,eY,qc⟩:=q
   obtain ⟨hfo,hcl⟩:=call_ok hC hlh (hv2.append qc) h hp' c
   refine callf_ok ho eY hfo ?_
   rw[show As.map a.eval++us=(As.toList.map a.eval++us.toList).toArray by apply Array.ext';simp]
   exact hcl
  ·rename_i ty r' F
   unfold fn1x at h
   split at h
   ·simp only[Option.map_eq_some_iff,Prod.mk.injEq] at h
    obtain ⟨⟨d,ls⟩,hd,_,rfl⟩:=h
    exact call1_ok ho hlh q hv2 hd c
   ·cases h
  ·rename_i ty tz r' F
   unfold fn2x at h
   split at h
   ·simp only[Option.bind_eq_some_iff,Option.map_eq_some_iff,Prod.mk.injEq] at h
    obtain ⟨⟨d,ls⟩,hd,⟨d2,ls2⟩,hd2,_,rfl⟩:=h
    exact call2_ok ho hlh q hv2 hd hd2 c
   ·cases h
  ·cases h
 case call.len cl str=>
  obtain ⟨cal,As,ts⟩:=cl
  cases cal<;>(try (simp[opChk] at hchk;done))
  rename_i bb
  cases bb<;>(try (simp[opChk] at hchk;done))
  cases args with
  |nil=>simp[opChk] at hchk
  |cons z0 args=>
  cases args with
  |cons _ _=>simp[opChk] at hchk
  |nil=>
  simp only[opChk,Bool.and_eq_true,beq_iff_eq,bne_iff_ne] at hchk
  simp only[List.map_cons,List.map_nil] at hv
  obtain ⟨x,rfl,q⟩:=avs1 hv
  obtain ⟨h1,h2⟩:=hchk
  have hm:=opsOk_eq h1
  obtain ⟨As⟩:=As
  simp only[List.map_cons,List.map_nil] at hm
  subst hm
  split at h2<;>(try (cases h2;done))
  rename_i T hT
  simp only[opx,Option.map_eq_some_iff,Prod.mk.injEq] at h
  obtain ⟨n,hn,_,rfl⟩:=h
  exact len_ok ho hT h2 hlh q hn c
 case call.append cl e0 t bytes=>
  obtain ⟨cal,As,ts⟩:=cl
  cases cal<;>(try (simp[opChk] at hchk;done))
  rename_i bb
  cases bb<;>(try (simp[opChk] at hchk;done))
  cases args with
  |nil=>simp[opChk] at hchk
  |cons z0 args=>
  cases args with
  |nil=>simp[opChk] at hchk
  |cons z1 args=>
  cases args with
  |cons _ _=>simp[opChk] at hchk
  |nil=>
  simp only[opChk,Bool.and_eq_true,beq_iff_eq,bne_iff_ne] at hchk
  simp only[List.map_cons,List.map_nil] at hv
  obtain ⟨x,y,rfl,q,q2⟩:=avs2 hv
  obtain ⟨⟨⟨⟨⟨h1,h2⟩,h3⟩,h4⟩,h5⟩,h6⟩:=hchk
  have hm:=opsOk_eq h1
  obtain ⟨As⟩:=As
  obtain ⟨ts⟩:=ts
  simp only[List.map_cons,List.map_nil] at hm
  subst hm
  split at h2<;>(try (cases h2;done))
  rename_i T T' hT
  simp only[Bool.and_eq_true,beq_iff_eq] at h2
  obtain ⟨e,h2⟩:=h2
  subst e
  simp only at hT
  subst hT
  simp only[opx] at h
  exact append_ok ho h2 h3 h4 h5 h6 hlh q q2 h hp' c
 case call.copy cl e0 t=>
  obtain ⟨cal,As,ts⟩:=cl
  cases cal<;>(try (simp[opChk] at hchk;done))
  rename_i bb
  cases bb<;>(try (simp[opChk] at hchk;done))
  cases args with
  |nil=>simp[opChk] at hchk
  |cons z0 args=>
  cases args with
  |nil=>simp[opChk] at hchk
  |cons z1 args=>
  cases args with
  |cons _ _=>simp[opChk] at hchk
  |nil=>
  simp only[opChk,Bool.and_eq_true,beq_iff_eq,bne_iff_ne] at hchk
  simp only[List.map_cons,List.map_nil] at hv
  obtain ⟨x,y,rfl,q,q2⟩:=avs2 hv
  obtain ⟨⟨h1,h2⟩,h3⟩:=hchk
  have hm:=opsOk_eq h1
  obtain ⟨As⟩:=As
  obtain ⟨ts⟩:=ts
  simp only[List.map_cons,List.map_nil] at hm
  subst hm
  split at h2<;>(try (cases h2;done))
  rename_i T T' hT
  simp only[Bool.and_eq_true,beq_iff_eq] at h2
  obtain ⟨e,h2⟩:=h2
  subst e
  simp only at hT
  subst hT
  simp only[opx] at h
  exact copy_ok ho h2 h3 hlh q q2 h hp' c
 case call.clear cl e0 t=>
  obtain ⟨cal,As,ts⟩:=cl
  cases cal<;>(try (simp[opChk] at hchk;done))
  rename_i bb
  cases bb<;>(try (simp[opChk] at hchk;done))
  cases args with
  |nil=>simp[opChk] at hchk
  |cons z0 args=>
  cases args with
  |cons _ _=>simp[opChk] at hchk
  |nil=>
  simp only[opChk,Bool.and_eq_true,beq_iff_eq,bne_iff_ne] at hchk
  simp only[List.map_cons,List.map_nil] at hv
  obtain ⟨x,rfl,q⟩:=avs1 hv
  obtain ⟨⟨⟨h1,h2⟩,h3⟩,h4⟩:=hchk
  have hm:=opsOk_eq h1
  obtain ⟨As⟩:=As
  obtain ⟨ts⟩:=ts
  simp only[List.map_cons,List.map_nil] at hm
  subst hm
  split at h2<;>(try (cases h2;done))
  rename_i T hT
  simp only at hT
  subst hT
  simp only[opx] at h
  exact clear_ok ho h2 h3 hlh q h hp' c
 case call.min cl=>
  obtain ⟨cal,As,ts⟩:=cl
  cases cal<;>(try (simp[opChk] at hchk;done))
  rename_i bb
  cases bb<;>(try (simp[opChk] at hchk;done))
  cases args with
  |nil=>simp[opChk] at hchk
  |cons z0 args=>
  cases args with
  |nil=>simp[opChk] at hchk
  |cons z1 args=>
  cases args with
  |cons _ _=>simp[opChk] at hchk
  |nil=>
  simp only[opChk,Bool.and_eq_true,beq_iff_eq,bne_iff_ne] at hchk
  simp only[List.map_cons,List.map_nil] at hv
  obtain ⟨x,y,rfl,q,q2⟩:=avs2 hv
  have hm:=opsOk_eq hchk
  obtain ⟨As⟩:=As
  simp only[List.map_cons,List.map_nil] at hm
  subst hm
  simp only[opx,minx,Option.bind_eq_some_iff] at h
  obtain ⟨⟨k,n⟩,hn,⟨k',m⟩,hm,h⟩:=h
  obtain rfl:=avIntK_some hn
  obtain rfl:=avIntK_some hm
  split at h<;>(try (cases h;done))
  rename_i ek
  simp only at ek
  subst ek
  simp only[Option.some.injEq,Prod.mk.injEq] at h
  obtain ⟨_,rfl⟩:=h
  have q':=avr_int q
  have q2':=avr_int q2
  refine does_run (v:=.int k (if m<n then m else n)) (w':=w) (by unfold execOp;simp[ho,resolve,invoke,builtin,Builtin.min_,Builtin.min2,q'.1,q2'.1]) (c.pure (int_avr ?_))
  simp only[Bool.false_eq_true,if_true,if_false]
  split
  ·exact q2'.2
  ·exact q'.2
 case call.max cl=>
  obtain ⟨cal,As,ts⟩:=cl
  cases cal<;>(try (simp[opChk] at hchk;done))
  rename_i bb
  cases bb<;>(try (simp[opChk] at hchk;done))
  cases args with
  |nil=>simp[opChk] at hchk
  |cons z0 args=>
  cases args with
  |nil=>simp[opChk] at hchk
  |cons z1 args=>
  cases args with
  |cons _ _=>simp[opChk] at hchk
  |nil=>
  simp only[opChk,Bool.and_eq_true,beq_iff_eq,bne_iff_ne] at hchk
  simp only[List.map_cons,List.map_nil] at hv
  obtain ⟨x,y,rfl,q,q2⟩:=avs2 hv
  have hm:=opsOk_eq hchk
  obtain ⟨As⟩:=As
  simp only[List.map_cons,List.map_nil] at hm
  subst hm
  simp only[opx,minx,Option.bind_eq_some_iff] at h
  obtain ⟨⟨k,n⟩,hn,⟨k',m⟩,hm,h⟩:=h
  obtain rfl:=avIntK_some hn
  obtain rfl:=avIntK_some hm
  split at h<;>(try (cases h;done))
  rename_i ek
  simp only at ek
  subst ek
  simp only[Option.some.injEq,Prod.mk.injEq] at h
  obtain ⟨_,rfl⟩:=h
  have q':=avr_int q
  have q2':=avr_int q2
  refine does_run (v:=.int k (if n<m then m else n)) (w':=w) (by unfold execOp;simp[ho,resolve,invoke,builtin,Builtin.max_,Builtin.max2,q'.1,q2'.1]) (c.pure (int_avr ?_))
  simp only[Bool.false_eq_true,if_true,if_false]
  split
  ·exact q2'.2
  ·exact q'.2
 case slice.slice T X L H mx t lo hi own=>
  cases mx with
  |some _=>cases L<;>cases H<;>simp[opChk] at hchk
  |none=>
  cases L with
  |none=>
   cases H with
   |none=>
    cases args with
    |nil=>simp[opChk] at hchk
    |cons z0 args=>
    cases args with
    |cons _ _=>simp[opChk] at hchk
    |nil=>
    simp only[opChk,Bool.and_eq_true,beq_iff_eq,bne_iff_ne] at hchk
    simp only[List.map_cons,List.map_nil] at hv
    obtain ⟨⟨⟨h1,h2⟩,h3⟩,h4⟩:=hchk
    obtain ⟨x,bs,rfl,q,hv2⟩:=avsS hv
    obtain ⟨e,_⟩:=opOk_eq h3
    rw[←e] at q
    simp only[opx] at h
    simp only[Bool.not_eq_true'] at h1 h2
    exact slicey_ok ho h4 hlh h1.symm h2.symm q hv2 h hp' c
   |some H=>
    cases args with
    |nil=>simp[opChk] at hchk
    |cons z0 args=>
    cases args with
    |nil=>simp[opChk] at hchk
    |cons z1 args=>
    cases args with
    |cons _ _=>simp[opChk] at hchk
    |nil=>
    simp only[opChk,Bool.and_eq_true,beq_iff_eq,bne_iff_ne] at hchk
    simp only[List.map_cons,List.map_nil] at hv
    obtain ⟨⟨⟨⟨h1,h2⟩,h3⟩,h5⟩,h4⟩:=hchk
    obtain ⟨x,bs,rfl,q,hv2⟩:=avsS hv
    obtain ⟨e,_⟩:=opOk_eq h3
    rw[←e] at q
    simp only[opx] at h
    obtain ⟨e2,_⟩:=opOk_eq h5
    rw[←e2] at hv2
    simp only[Bool.not_eq_true'] at h1 h2
    exact slicey_ok ho h4 hlh h1.symm h2.symm q hv2 h hp' c
  |some L=>
   cases H with
   |none=>
    cases args with
    |nil=>simp[opChk] at hchk
    |cons z0 args=>
    cases args with
    |nil=>simp[opChk] at hchk
    |cons z1 args=>
    cases args with
    |cons _ _=>simp[opChk] at hchk
    |nil=>
    simp only[opChk,Bool.and_eq_true,beq_iff_eq,bne_iff_ne] at hchk
    simp only[List.map_cons,List.map_nil] at hv
    obtain ⟨⟨⟨⟨h1,h2⟩,h3⟩,h5⟩,h4⟩:=hchk
    obtain ⟨x,bs,rfl,q,hv2⟩:=avsS hv
    obtain ⟨e,_⟩:=opOk_eq h3
    rw[←e] at q
    simp only[opx] at h
    obtain ⟨e2,_⟩:=opOk_eq h5
    rw[←e2] at hv2
    simp only[Bool.not_eq_true'] at h1 h2
    exact slicey_ok ho h4 hlh h1.symm h2.symm q hv2 h hp' c
   |some H=>
    cases args with
    |nil=>simp[opChk] at hchk
    |cons z0 args=>
    cases args with
    |nil=>simp[opChk] at hchk
    |cons z1 args=>
    cases args with
    |nil=>simp[opChk] at hchk
    |cons z2 args=>
    cases args with
    |cons _ _=>simp[opChk] at hchk
    |nil=>
    simp only[opChk,Bool.and_eq_true,beq_iff_eq,bne_iff_ne] at hchk
    simp only[List.map_cons,List.map_nil] at hv
    obtain ⟨⟨⟨⟨⟨h1,h2⟩,h3⟩,h5⟩,h6⟩,h4⟩:=hchk
    obtain ⟨x,bs,rfl,q,hv2⟩:=avsS hv
    obtain ⟨e,_⟩:=opOk_eq h3
    rw[←e] at q
    simp only[opx] at h
    obtain ⟨e2,_⟩:=opOk_eq h5
    obtain ⟨e3,_⟩:=opOk_eq h6
    rw[←e2,←e3] at hv2
    exact slicey_ok ho h4 hlh h1.symm h2.symm q hv2 h hp' c
end
end T
end Go.Proofs.YtpocfbfmjippnaaGreat
end
section
namespace Go.Proofs.YtpocfbfmjippnaaGreat
open Go.RowKit
namespace T
structure XO where
 dst:Option Nat
 op:XOp
 args:List XA
 guard:Option (Nat×Nat×Bool)
 ast:List Nat
def strip:AV→Prop×AV
 | .whn g v=>(g=true,v)
 |v=>(True,v)
def stripL:List AV→Prop×List AV
 |[]=>(True,[])
 |a::r=>((strip a).1∧(stripL r).1,(strip a).2::(stripL r).2)
def boolOf:AV→Option (Prop×Bool)
 | .val .bool b=>some (True,b)
 | .whn g (.val .bool b)=>some (g=true,b)
 | .cst _=>some (False,false)
 |_=>none
def pickx:List AV→Option (Prop×Eff)
 |[c,a,b]=>match boolOf c,boolOf a,boolOf b with
  |some (pc,cv),some (pa,da),some (pb,db)=>some (pc∧(cv=true→pa)∧(cv=false→pb),pur (.val .bool (bif cv then da else db)))
  |_,_,_=>none
 |_=>none
def XOp.isPick:XOp→Bool
 | .pick=>true
 |_=>false
def opg (C:List Ent) (lh:Hp) (fr:Nat) (x:XOp) (args:List AV):Option (Prop×Eff):=
 if x.isPick then pickx args else (opx C lh fr x (stripL args).2).map fun r=>((stripL args).1∧r.1,r.2)
def gcond (want:Bool):AV→Option Bool
 | .val .bool b=>some (b==want)
 | .whn c (.val .bool b)=>some (c&&(b==want))
 |_=>none
def gop (C:List Ent) (lh:Hp) (fr:Nat) (g:Option (AV×Bool)) (x:XOp) (args:List AV):Option (Prop×Eff):=
 match g with
 |none=>opg C lh fr x args
 |some (av,want)=>match gcond want av with
  |none=>none
  |some c=>match opg C lh fr x args with
   |some (p,e)=>if e.put.isNone&&e.kill.isEmpty then some (c=true→p,pur (.whn c e.v)) else (bif c then some (p,e) else some (True,pur (.cst undef)))
   |none=>bif c then none else some (True,pur (.cst undef))
section
variable (P:Program)
def guardChk (ops:Array Oper):Option (Nat×Bool)→Option (Nat×Nat×Bool)→Bool
 |none,none=>true
 |some (j,b),some (j',t,b')=>j==j'&&b==b'&&(ops[j]?).bind (·.dst)==some t
 |_,_=>false
def xoChk (ops:Array Oper) (o:Oper) (x:XO):Bool:=o.dst==x.dst&&guardChk ops o.guard x.guard&&opChk P o.op x.op x.args
end
section
variable {P:Program} {B:Nat} {M:Nat→Prop} {hp lh:Hp} {ψ:Nat→Value} {w w':World} {fr:Nat} {C:List Ent} {o:Oper} {a:Act}
theorem strip_ok {hp:Hp} {M':Nat→Prop} {x:AV} {v:Value} (h:(strip x).1) (q:AVR P hp ψ w M' x v):AVR P hp ψ w M' (strip x).2 v:=by
 cases x<;>first|exact q|exact q.1 h
theorem stripL_ok {hp:Hp} {M':Nat→Prop}:∀{xs:List AV} {vs:List Value},(stripL xs).1→AVRs P hp ψ w M' xs vs→AVRs P hp ψ w M' (stripL xs).2 vs
 |[],_,_,q=>q
 |x::xs,_,h,⟨v,r,e,q1,q2⟩=>⟨v,r,e,strip_ok h.1 q1,stripL_ok h.2 q2⟩
theorem strip_locs {x:AV}:(strip x).2.locs=x.locs:=by cases x<;>rfl
theorem stripL_locs:∀{xs:List AV},AV.locsL (stripL xs).2=AV.locsL xs
 |[]=>rfl
 |x::xs=>by simp[stripL,AV.locsL,strip_locs,stripL_locs]
theorem boolOf_ok {hp:Hp} {M':Nat→Prop} {x:AV} {v:Value} {p:Prop} {b:Bool} (h:boolOf x=some (p,b)) (hp':p) (q:AVR P hp ψ w M' x v):v= .bool b:=by
 unfold boolOf at h;split at h
 ·simp only[Option.some.injEq,Prod.mk.injEq] at h;obtain ⟨_,rfl⟩:=h;exact avr_bool q
 ·simp only[Option.some.injEq,Prod.mk.injEq] at h;obtain ⟨rfl,rfl⟩:=h;exact avr_bool (q.1 hp')
 ·simp only[Option.some.injEq,Prod.mk.injEq] at h;obtain ⟨rfl,_⟩:=h;exact hp'.elim
 ·cases h
theorem opg_ok (hC:∀e∈C,Con P e) (hlh:∀l ob,lh l=some ob→hp l=some ob) {x:XOp} {args:List XA} {avs:List AV} {p:Prop} {eff:Eff} (hchk:opChk P o.op x args=true) (hv:AVRs P hp ψ w (Mu M hp ψ) avs (args.map fun z=>a.eval z.opnd))
  (hf:fr∉AV.locsL avs) (h:opg C lh fr x avs=some (p,eff)) (hp':p) (c:Ctx P B M hp ψ w fr):Does P o a w (OpPost P B M hp ψ w fr eff):=by
 unfold opg at h
 split at h
 ·rename_i hx
  cases x<;>simp[XOp.isPick] at hx
  cases ho:o.op<;>rw[ho] at hchk<;>(try (simp[opChk] at hchk;done))
  rename_i cc X Y
  unfold pickx at h
  split at h<;>(try (cases h;done))
  rename_i _ c0 a0 b0
  split at h<;>(try (cases h;done))
  rename_i pc cv pa da pb db hc ha hb
  simp only[Option.some.injEq,Prod.mk.injEq] at h
  obtain ⟨rfl,rfl⟩:=h
  cases args with
  |nil=>simp[opChk] at hchk
  |cons z0 args=>
  cases args with
  |nil=>simp[opChk] at hchk
  |cons z1 args=>
  cases args with
  |nil=>simp[opChk] at hchk
  |cons z2 args=>
  cases args with
  |cons _ _=>simp[opChk] at hchk
  |nil=>
  simp only[opChk,Bool.and_eq_true] at hchk
  obtain ⟨⟨h1,h2⟩,h3⟩:=hchk
  simp only[List.map_cons,List.map_nil] at hv
  obtain ⟨_,_,e,q1,_,_,e',q2,_,_,e'',q3,_⟩:=hv
  simp only[List.cons.injEq] at e e' e''
  obtain ⟨rfl,rfl⟩:=e
  simp only[List.cons.injEq] at e'
  obtain ⟨rfl,rfl⟩:=e'
  simp only[List.cons.injEq] at e''
  obtain ⟨rfl,rfl⟩:=e''
  rw[←(opOk_eq h1).1] at q1
  rw[←(opOk_eq h2).1] at q2
  rw[←(opOk_eq h3).1] at q3
  have ec:=boolOf_ok hc hp'.1 q1
  cases cv with
  |true=>
   have ea:=boolOf_ok ha (hp'.2.1 rfl) q2
   exact does_run (v:=.bool da) (w':=w) (by unfold execOp;simp[ho,ec,ea,asBool]) (c.pure bool_avr)
  |false=>
   have ea:=boolOf_ok hb (hp'.2.2 rfl) q3
   exact does_run (v:=.bool db) (w':=w) (by unfold execOp;simp[ho,ec,ea,asBool]) (c.pure bool_avr)
 ·rename_i hx
  obtain ⟨r,hr,e⟩:=Option.map_eq_some_iff.1 h
  simp only[Prod.mk.injEq] at e
  obtain ⟨rfl,rfl⟩:=e
  exact opx_ok hC hlh hchk (stripL_ok hp'.1 hv) (by rw[stripL_locs];exact hf) (by rintro rfl;simp[XOp.isPick] at hx) hr hp'.2 c
theorem gop_ok {ro:Option Nat} (hC:∀e∈C,Con P e) (hlh:∀l ob,lh l=some ob→hp l=some ob) {ops:Array Oper} {x:XO} {avs:List AV} {g:Option (AV×Bool)} {p:Prop} {eff:Eff} (hchk:xoChk P ops o x=true) (hv:AVRs P hp ψ w (Mu M hp ψ) avs (x.args.map fun z=>a.eval z.opnd))
  (hf:fr∉AV.locsL avs) (hg:match x.guard with
   |none=>g=none
   |some (_,t,b)=>∃av,g=some (av,b)∧AVR P hp ψ w (Mu M hp ψ) av (a.tmps.getD t undef)∧t<a.tmps.size)
  (h:gop C lh fr g x.op avs=some (p,eff)) (hp':p) (c:Ctx P B M hp ψ w fr) {K:Act→World→Prop} {Q:Exit→Act→World→Prop} (hK:∀v w',OpPost P B M hp ψ w fr eff v w'→K (a.put o.dst v) w'):
  Up ro P ops o a w K Q:=by
 unfold Up
 unfold xoChk at hchk
 simp only[Bool.and_eq_true] at hchk
 obtain ⟨⟨_,hgc⟩,hop⟩:=hchk
 cases hxg:x.guard with
 |none=>
  rw[hxg] at hgc hg
  cases hog:o.guard with
  |some _=>rw[hog] at hgc;simp[guardChk] at hgc
  |none=>
   have hw:Region.wanted o (yielded ops a.tmps)=true:=by simp[Region.wanted,hog]
   rw[if_pos hw]
   simp only at hg
   subst hg
   exact opg_ok hC hlh hop hv hf h hp' c ro K Q hK
 |some jtb=>
  obtain ⟨j,t,b⟩:=jtb
  rw[hxg] at hgc hg
  obtain ⟨av,rfl,hav,hlt⟩:=hg
  cases hog:o.guard with
  |none=>rw[hog] at hgc;simp[guardChk] at hgc
  |some jb=>
   obtain ⟨j',b'⟩:=jb
   rw[hog] at hgc
   simp only[guardChk,Bool.and_eq_true,beq_iff_eq] at hgc
   obtain ⟨⟨rfl,rfl⟩,hdst⟩:=hgc
   have hwant:∀cnd,gcond b' av=some cnd→Region.wanted o (yielded ops a.tmps)=cnd:=by
    intro cnd hcnd;have hy:yielded ops a.tmps j'=match a.tmps.getD t undef with| .bool b=>some b|_=>none:=by
     unfold yielded;rw[hdst];simp only[Option.bind_some];rw[Array.getElem?_eq_getElem hlt];simp only[Array.getD_eq_getD_getElem?,Array.getElem?_eq_getElem hlt,Option.getD_some];cases a.tmps[t]<;>rfl
    unfold Region.wanted;rw[hog];simp only;rw[hy];unfold gcond at hcnd;split at hcnd
    ·injection hcnd with hcnd;subst hcnd;rw[avr_bool hav];rfl
    ·rename_i cc bb;injection hcnd with hcnd;subst hcnd;cases cc with
     |true=>rw[avr_bool (hav.1 rfl)];simp
     |false=>rw[hav.2 rfl];rfl
    ·cases hcnd
   unfold gop at h
   simp only at h
   split at h
   ·cases h
   ·rename_i cnd hcnd
    rw[hwant cnd hcnd]
    split at h
    ·rename_i p1 e1 hop1
     split at h
     ·rename_i hpure
      simp only[Bool.and_eq_true,Option.isNone_iff_eq_none,List.isEmpty_iff] at hpure
      simp only[Option.some.injEq,Prod.mk.injEq] at h
      obtain ⟨rfl,rfl⟩:=h
      obtain ⟨v1,k1,pt1⟩:=e1
      simp only at hpure
      obtain ⟨rfl,rfl⟩:=hpure
      cases cnd with
      |true=>
       rw[if_pos rfl]
       refine opg_ok hC hlh hop hv hf hop1 (hp' rfl) c ro K Q fun v w' hpost=>hK v w' ?_
       obtain ⟨ψ',q1,q2,q3,q4⟩:=hpost
       exact ⟨ψ',q1,q2,⟨fun _=>q3,fun h=>by cases h⟩,q4⟩
      |false=>
       rw[if_neg (by simp)]
       exact hK undef w (c.pure ⟨fun h=>(by cases h),fun _=>rfl⟩)
     ·cases cnd with
      |true=>
       simp only[cond_true,Option.some.injEq,Prod.mk.injEq] at h
       obtain ⟨rfl,rfl⟩:=h
       rw[if_pos rfl]
       exact opg_ok hC hlh hop hv hf hop1 hp' c ro K Q hK
      |false=>
       simp only[cond_false,Option.some.injEq,Prod.mk.injEq] at h
       obtain ⟨_,rfl⟩:=h
       rw[if_neg (by simp)]
       exact hK undef w (c.pure rfl)
    ·cases cnd with
     |true=>cases h
     |false=>
      simp only[cond_false,Option.some.injEq,Prod.mk.injEq] at h
      obtain ⟨_,rfl⟩:=h
      rw[if_neg (by simp)]
      exact hK undef w (c.pure rfl)
structure Fix where
 w:World
 vs:List Value
 dm:Bool
 ms:List Deferred
def Marks (P:Program) (B:Nat) (hp:Hp) (ψ:Nat→Value) (w:World) (M:Nat→Prop) (ds:List Deferred):Prop:=
 (∀d∈ds,∃b,d={ target:=.collected b,args:=#[] }∧B≤b∧AVR P hp ψ w M (.frz (.deferred (some []))) (.pointer (some ⟨b,0,none⟩)))∧ds.Pairwise fun x y=>x.target≠y.target
theorem Marks.map {P:Program} {B:Nat} {hp hp':Hp} {ψ ψ':Nat→Value} {w w':World} {M M':Nat→Prop} {ds:List Deferred} (m:Marks P B hp ψ w M ds) (h:∀u,AVR P hp ψ w M (.frz (.deferred (some []))) u→AVR P hp' ψ' w' M' (.frz (.deferred (some []))) u):Marks P B hp' ψ' w' M' ds:=
 ⟨fun d hd=>let ⟨b,e,hB,q⟩:=m.1 d hd;⟨b,e,hB,h _ q⟩,m.2⟩
theorem Marks.nil {P:Program} {B:Nat} {hp:Hp} {ψ:Nat→Value} {w:World} {M:Nat→Prop}:Marks P B hp ψ w M []:=⟨fun _ hd=>absurd hd List.not_mem_nil,List.Pairwise.nil⟩
def sval (f:Fix) (n:Nat) (a:Act) (t:Nat):Value:=if t<n then a.tmps.getD t undef else f.vs.getD (t-n) undef
structure SimF (P:Program) (B:Nat) (M:Nat→Prop) (tm:Nat→AV) (n:Nat) (hp:Hp) (A:Nat→Prop) (ψ:Nat→Value) (w0:Fix) (a:Act) (w:World):Prop where
 hok:HOK P B M hp ψ w
 av:∀t,AVR P hp ψ w (Mu M hp ψ) (tm t) (sval w0 n a t)
 size:a.tmps.size=n
 defers:(w0.dm=false→a.defers=[])∧Marks P B hp ψ w (Mu M hp ψ) (a.defers++w0.ms)
 lt:∀t,∀l∈(tm t).locs,A l
 hlt:∀l ob,hp l=some ob→A l∧∀k∈ob.locs,A k
 bel:Stay B M w0.w w
def setF (tm:Nat→AV):Option Nat→AV→(Nat→AV)
 |none,_=>tm
 |some d,v=>fun t=>if t=d then v else tm t
variable {tm:Nat→AV} {n:Nat} {A A':Nat→Prop} {w0:Fix}
theorem SimF.at (s:SimF P B M tm n hp A ψ w0 a w) {t:Nat} (h:t<n):AVR P hp ψ w (Mu M hp ψ) (tm t) (a.tmps.getD t undef):=by
 have:=s.av t;rwa [sval,if_pos h] at this
theorem SimF.arg (s:SimF P B M tm n hp A ψ w0 a w) {z:XA} (hz:z.ok) (hn:∀k,z= .t k→k<n) {av:AV} (e:av=match z with| .t k=>tm k| .int k n=>.val (.int k) n| .bool b=>.val .bool b| .str s=>.val .str s| .nil=>.cst (.slice none 0 0)| .fn f=>.clo f []| .nilp=>.cst (.pointer none)| .nilm=>.cst (.map none)):AVR P hp ψ w (Mu M hp ψ) av (a.eval z.opnd):=by
 subst e;cases z with
 |t k=>exact s.at (hn k rfl)
 |int k m=>exact int_avr hz
 |bool b=>exact bool_avr
 |str x=>exact ⟨by unfold Ty.shape Ty.isSt;simp[XA.opnd,Act.eval],rfl,hz⟩
 |nil=>exact rfl
 |nilp=>exact rfl
 |nilm=>exact rfl
 |fn f=>exact ⟨#[],rfl,rfl⟩
theorem SimF.step (s:SimF P B M tm n hp A ψ w0 a w) {eff:Eff} {d:Option Nat} {v:Value} (hfr:¬A fr) (hd:∀t,d=some t→t<n) (hAA:∀l,A l→A' l) (hA':A' fr) (hpl:∀l ob,eff.put=some (l,ob)→A' l) (hev:∀l∈eff.v.locs,A' l) (hep:∀l ob,eff.put=some (l,ob)→∀k∈ob.locs,A' k)
  (h:OpPost P B M hp ψ w fr eff v w'):∃ψ',SimF P B M (setF tm d eff.v) n (eff.app hp) A' ψ' w0 (a.put d v) w':=by
 obtain ⟨ψ',q1,q2,q3,q4⟩:=h
 have hkeep:∀t,AVR P (eff.app hp) ψ' w' (Mu M (eff.app hp) ψ') (tm t) (sval w0 n a t):=fun t=>q4 _ _ (fun hm=>hfr (s.lt t _ hm)) (s.av t)
 refine ⟨ψ',q1,?_,?_,?_,?_,?_,s.bel.trans q2⟩
 ·intro t
  cases d with
  |none=>exact hkeep t
  |some d=>
   have hdn:=hd d rfl
   by_cases e:t=d
   ·subst e
    have hs:t<a.tmps.size:=by rw[s.size];exact hdn
    simp only[setF,if_true,Act.put,sval,if_pos hdn]
    simpa [hs] using q3
   ·have hk:=hkeep t
    simp only[setF,if_neg e,Act.put,sval] at hk⊢
    have:(a.tmps.setIfInBounds d v).getD t undef=a.tmps.getD t undef:=by
     simp[Array.getElem?_setIfInBounds_ne (Ne.symm e)]
    rw[this];exact hk
 ·cases d with
  |none=>exact s.size
  |some d=>simp[Act.put,s.size]
 ·have:(a.put d v).defers=a.defers:=by cases d<;>rfl
  rw[this];exact ⟨s.defers.1,s.defers.2.map fun u q=>q4 _ _ (by simp[AV.locs]) q⟩
 ·intro t l hl
  cases d with
  |none=>exact hAA l (s.lt t l hl)
  |some d=>
   simp only[setF] at hl
   split at hl
   ·exact hev l hl
   ·exact hAA l (s.lt t l hl)
 ·intro l ob hl
  obtain ⟨v1,ks,pt⟩:=eff
  cases pt with
  |none=>
   rw[app_none] at hl
   obtain ⟨k1,k2⟩:=s.hlt l ob (kill_some hl).2
   exact ⟨hAA l k1,fun k hk=>hAA k (k2 k hk)⟩
  |some lo=>
   obtain ⟨l0,ob0⟩:=lo
   rw[app_put] at hl
   by_cases e:l=l0
   ·subst e
    rw[putHp_same] at hl;injection hl with hl;subst hl
    exact ⟨hpl _ _ rfl,hep _ _ rfl⟩
   ·rw[putHp_other _ _ e] at hl
    obtain ⟨k1,k2⟩:=s.hlt l ob (kill_some hl).2
    exact ⟨hAA l k1,fun k hk=>hAA k (k2 k hk)⟩
theorem SimF.ctx (s:SimF P B M tm n hp A ψ w0 a w) (hfr:¬A fr):Ctx P B M hp ψ w fr:=by
 refine ⟨s.hok,?_,fun l ob h hm=>hfr ((s.hlt l ob h).2 _ hm)⟩;cases h:hp fr with
 |none=>rfl
 |some ob=>exact absurd (s.hlt fr ob h).1 hfr
theorem SimF.drew (s:SimF P B M tm n hp A ψ w0 a w):SimF P B M tm n hp A ψ w0 a { w with drawn:=w.drawn+1 }:=by
 have hl:∀M',(∀b,M' b→b<w.heap.size)→Later w M' { w with drawn:=w.drawn+1 } M':=fun M' h=>⟨Nat.le_refl _,fun _ _ _=>rfl,fun _ _ h=>h,h⟩;have hmu:=hl _ s.hok.mu;have hk:∀(f:Nat) l ob',l≠f→hp l=some ob'→∃ob,hp l=some ob∧ob.like ob':=fun _ _ ob' _ h=>⟨ob',h,like_refl _⟩;have key:∀{av:AV} {v:Value},AVR P hp ψ w (Mu M hp ψ) av v→AVR P hp ψ { w with drawn:=w.drawn+1 } (Mu M hp ψ) av v:=by
  intro av v q;have:∃f,f∉av.locs:=⟨av.locs.foldl Nat.max 0+1,fun hm=>by
   have key:∀(l:List Nat) (m x:Nat),x∈l∨x≤m→x≤l.foldl Nat.max m:=by
    intro l;induction l with
    |nil=>intro m x h;simpa using h
    |cons y r ih=>
     intro m x h;simp only[List.foldl_cons];apply ih;rcases h with h|h
     ·rcases List.mem_cons.1 h with h|h
      ·right;subst h;exact Nat.le_max_right _ _
      ·exact .inl h
     ·exact .inr (Nat.le_trans h (Nat.le_max_left _ _))
   have:=key av.locs 0 _ (.inl hm);omega⟩
  obtain ⟨f,hf⟩:=this;exact AVR.later hmu (fun _ _=>rfl) (hk f) hf q
 have keys:∀{avs:List AV} {vs:List Value},AVRs P hp ψ w (Mu M hp ψ) avs vs→AVRs P hp ψ { w with drawn:=w.drawn+1 } (Mu M hp ψ) avs vs:=by
  intro avs;induction avs with
  |nil=>intro vs q;exact q
  |cons x r ih=>rintro vs ⟨v,u,e,q1,q2⟩;exact ⟨v,u,e,key q1,ih q2⟩
 refine ⟨⟨fun l ob h=>?_,s.hok.dj,s.hok.mb,s.hok.md,s.hok.bz⟩,fun t=>key (s.av t),s.size,⟨s.defers.1,s.defers.2.map fun u q=>key q⟩,s.lt,s.hlt,s.bel.drew⟩;have:=s.hok.ob l ob h;cases ob with
 |box T cs=>obtain ⟨b,cells,e,h1,h2,h3,h4⟩:=this;exact ⟨b,cells,e,h1,h2,keys h3,h4⟩
 |row e t xs=>obtain ⟨cells,h1,h2⟩:=this;exact ⟨cells,h1,h2.mono fun x _ c q=>q.later hmu⟩
 |mp k t xs=>exact this
 |lp bs r=>exact this
 |it k t left cur=>exact this
end
end T
end Go.Proofs.YtpocfbfmjippnaaGreat
end
section
namespace Go.Proofs.YtpocfbfmjippnaaGreat
open Go.RowKit
namespace T
structure AS where
 tm:List (Nat×AV)
 hp:List (Nat×OB)
 nx:Nat
 kv:List Nat
def look:List (Nat×OB)→Nat→Option OB
 |[],_=>none
 |(k,ob)::r,l=>if l=k then some ob else look r l
def killL (h:List (Nat×OB)) (ks:List Nat):List (Nat×OB):=if ks.isEmpty then h else h.filter fun p=>!ks.contains p.1
def appL (e:Eff) (h:List (Nat×OB)):List (Nat×OB):=match e.put with
 |none=>killL h e.kill
 |some (l,ob)=>(l,ob)::(killL h e.kill).filter fun p=>!(p.1==l)
def setT (tm:List (Nat×AV)):Option Nat→AV→List (Nat×AV)
 |none,_=>tm
 |some d,v=>(d,v)::tm
def ltAll (n:Nat):List Nat→Bool
 |[]=>true
 |x::r=>decide (x<n)&&ltAll n r
def effOk (n:Nat) (e:Eff):Bool:=ltAll n e.v.locs&&match e.put with
 |none=>true
 |some (l,ob)=>decide (l<n)&&ltAll n ob.locs
def XO.gv (x:XO) (tm:List (Nat×AV)):Option (AV×Bool):=match x.guard with
 |none=>none
 |some (_,t,b)=>some (tmG tm t,b)
def stepT (C:List Ent) (st:AS) (x:XO):Option (Prop×AS):=
 match gop C (look st.hp) st.nx (x.gv st.tm) x.op (x.args.map (XA.av st.tm)) with
 |none=>none
 |some (p,e)=>if effOk (st.nx+1) e then some (p,⟨setT st.tm x.dst e.v,appL e st.hp,st.nx+1,st.kv⟩) else none
def runT (C:List Ent):AS→List XO→Option (Prop×AS)
 |st,[]=>some (True,st)
 |st,x::xs=>match stepT C st x with
  |none=>none
  |some (p,st1)=>match runT C st1 xs with
   |none=>none
   |some (q,st2)=>some (p∧q,st2)
structure Tr where
 dst:Option Nat
 e:Eff
 R:List Nat
 fr:Nat
 ast:List Nat
def reach (h:Hp) (args:List AV):List Nat:=AV.locsL args++(AV.locsL args).flatMap fun l=>match h l with
 |some ob=>ob.locs
 |none=>[]
def reachO (op:XOp) (h:Hp) (args:List AV):List Nat:=match op with
 | .mv=>[]
 |_=>reach h args
theorem reachO_or (op:XOp) (h:Hp) (args:List AV):reachO op h args=[]∨reachO op h args=reach h args:=by
 cases op<;>first|exact .inl rfl|exact .inr rfl
def restr (h:Hp) (R:List Nat):Hp:=fun l=>if l∈R then h l else none
def inAll (R:List Nat):List Nat→Bool
 |[]=>true
 |x::r=>R.contains x&&inAll R r
def effIn (R:List Nat) (e:Eff):Bool:=inAll R e.v.locs&&inAll R e.kill&&match e.put with
 |none=>true
 |some (l,ob)=>R.contains l&&inAll R ob.locs
def stepD (C:List Ent) (st:AS) (x:XO):Option (Prop×AS×Tr):=
 match gop C (restr (look st.hp) (reachO x.op (look st.hp) (x.args.map (XA.av st.tm)))) st.nx (x.gv st.tm) x.op (x.args.map (XA.av st.tm)) with
 |none=>none
 |some (p,e)=>if effIn (st.nx::(reachO x.op (look st.hp) (x.args.map (XA.av st.tm))++AV.locsL (x.args.map (XA.av st.tm)))) e then
   some (p,⟨setT st.tm x.dst e.v,appL e st.hp,st.nx+1,st.kv⟩,⟨x.dst,e,reachO x.op (look st.hp) (x.args.map (XA.av st.tm)),st.nx,x.ast⟩) else none
def runD (C:List Ent):AS→List XO→Option (Prop×AS×List Tr)
 |st,[]=>some (True,st,[])
 |st,x::xs=>match stepD C st x with
  |none=>none
  |some (p,st1,t)=>match runD C st1 xs with
   |none=>none
   |some (q,st2,ts)=>some (p∧q,st2,t::ts)
def Eff.tch (e:Eff):List Nat:=match e.put with
 |none=>e.kill
 |some (l,_)=>l::e.kill
def meet (a b:Tr):Bool:=a.e.tch.any (fun l=>b.R.contains l||b.e.tch.contains l)||b.e.tch.any fun l=>a.R.contains l
def okD:Nat→List Tr→Bool
 |_,[]=>true
 |i,a::r=>(r.all fun b=>if b.ast.contains i then true else !meet a b)&&okD (i+1) r
def runR (C:List Ent) (draw:Bool) (st:AS) (xs:List XO):Option (Prop×AS):=
 if draw then match runD C st xs with
  |none=>none
  |some (p,st',ts)=>if okD 0 ts then some (p,st') else none
 else runT C st xs
def XA.okB:XA→Bool
 | .int k n=>decide (k.min≤n)&&decide (n≤k.max)
 | .str s=>decide (s.size≤maxLen)
 |_=>true
def XO.reads (x:XO):List Nat:=x.args.flatMap XA.slot++match x.guard with
 |some (_,t,_)=>[t]
 |none=>[]
def inRange (n:Nat):Option Nat→Bool
 |none=>true
 |some d=>decide (d<n)
def listChk (P:Program) (n:Nat) (ops:Array Oper):List Oper→List XO→Bool
 |[],[]=>true
 |o::os,x::xs=>xoChk P ops o x&&inRange n x.dst&&x.reads.all (· <n)&&x.args.all XA.okB&&listChk P n ops os xs
 |_,_=>false
def slotsMeet (a b:XO):Bool:=(match a.dst with|some d=>b.reads.contains d||b.dst==some d|none=>false)||(match b.dst with|some d=>a.reads.contains d|none=>false)
def slotsOk:Nat→List XO→Bool
 |_,[]=>true
 |i,a::r=>(r.all fun b=>b.ast.contains i|| !slotsMeet a b)&&slotsOk (i+1) r
def astOk (ops:Array Oper) (xs:List XO):Nat→List XO→Bool
 |_,[]=>true
 |i,x::r=>(match ops[i]? with
   |none=>false
   |some o=>o.after.all (fun e=>!Region.binds .any e||decide (e.on<i))&&x.ast.all fun k=>o.after.any fun e=>Region.binds .any e&&(k==e.on||(match xs[e.on]? with|some y=>y.ast.contains k|none=>false)))
  &&astOk ops xs (i+1) r
def regChk (P:Program) (n:Nat) (ops:Array Oper) (draw:Bool) (xs:List XO):Bool:=
 listChk P n ops ops.toList xs&&(!draw||(P.follows .mixedOrders&&slotsOk 0 xs&&astOk ops xs 0 xs))
section
variable {P:Program} {B:Nat} {M:Nat→Prop} {hp lh:Hp} {ψ:Nat→Value} {w w':World} {fr:Nat} {C:List Ent} {o:Oper} {a:Act} {n:Nat} {w0:Fix} {Q:Exit→Act→World→Prop} {ops:Array Oper}
theorem look_kill {h:List (Nat×OB)} {ks:List Nat}:look (killL h ks)=kill (look h) ks:=by
 funext l;unfold killL;split
 ·rename_i he;rw[List.isEmpty_iff] at he;subst he;rw[kill_nil]
 ·induction h with
  |nil=>simp[look,kill]
  |cons p r ih=>
   obtain ⟨k,ob⟩:=p;by_cases hk:k∈ks
   ·rw[List.filter_cons_of_neg (by simpa using hk),ih];simp only[kill,look];split
    ·rfl
    ·rename_i hl;rw[if_neg (fun e=>hl (by rw[e];exact hk))]
   ·rw[List.filter_cons_of_pos (by simpa using hk)];simp only[look];by_cases e:l=k
    ·subst e;simp[kill,hk,look]
    ·rw[if_neg e,ih];simp only[kill,look,if_neg e]
theorem look_put {h:List (Nat×OB)} {l:Nat} {ob:OB}:look ((l,ob)::h.filter fun p=>!(p.1==l))=putHp (look h) l ob:=by
 funext x;simp only[look,putHp];split
 ·rfl
 ·rename_i hx;induction h with
  |nil=>rfl
  |cons p r ih=>
   obtain ⟨k,ob'⟩:=p;by_cases hk:k=l
   ·subst hk;rw[List.filter_cons_of_neg (by simp),ih];simp only[look,if_neg hx]
   ·rw[List.filter_cons_of_pos (by simpa using hk)];simp only[look,ih]
theorem look_app {e:Eff} {h:List (Nat×OB)}:look (appL e h)=e.app (look h):=by
 obtain ⟨v,ks,pt⟩:=e;cases pt with
 |none=>exact look_kill
 |some lo=>
  obtain ⟨l,ob⟩:=lo;rw[app_put,←look_kill];exact look_put
theorem setT_get {tm:List (Nat×AV)} {d:Option Nat} {v:AV}:tmG (setT tm d v)=setF (tmG tm) d v:=by
 funext t;cases d<;>rfl
theorem ltAll_mem {n:Nat}:∀{l:List Nat},ltAll n l=true→∀x∈l,x<n
 |[],_,x,hx=>by simp at hx
 |y::r,h,x,hx=>by
  simp only[ltAll,Bool.and_eq_true,decide_eq_true_eq] at h;rcases List.mem_cons.1 hx with rfl|hx
  ·exact h.1
  ·exact ltAll_mem h.2 x hx
theorem inAll_mem {R:List Nat}:∀{l:List Nat},inAll R l=true→∀x∈l,x∈R
 |[],_,x,hx=>by simp at hx
 |y::r,h,x,hx=>by
  simp only[inAll,Bool.and_eq_true] at h;rcases List.mem_cons.1 hx with rfl|hx
  ·simpa using h.1
  ·exact inAll_mem h.2 x hx
theorem okB_ok {z:XA} (h:z.okB=true):z.ok:=by
 cases z<;>simp[XA.okB,XA.ok] at h⊢
 ·exact h
 ·exact h
def avF (tm:Nat→AV):XA→AV
 | .t k=>tm k
 | .int k n=>.val (.int k) n
 | .bool b=>.val .bool b
 | .str s=>.val .str s
 | .nil=>.cst (.slice none 0 0)
 | .fn f=>.clo f []
 | .nilp=>.cst (.pointer none)
 | .nilm=>.cst (.map none)
theorem av_avF (tm:List (Nat×AV)) (z:XA):XA.av tm z=avF (tmG tm) z:=by cases z<;>rfl
def gvF (tm:Nat→AV) (x:XO):Option (AV×Bool):=match x.guard with
 |none=>none
 |some (_,t,b)=>some (tm t,b)
theorem gv_gvF (tm:List (Nat×AV)) (x:XO):x.gv tm=gvF (tmG tm) x:=by
 unfold XO.gv gvF;cases x.guard<;>rfl
variable {tm:Nat→AV} {A A':Nat→Prop}
theorem SimF.args (s:SimF P B M tm n hp A ψ w0 a w):∀{zs:List XA},(zs.all XA.okB=true)→((zs.flatMap XA.slot).all (· <n)=true)→AVRs P hp ψ w (Mu M hp ψ) (zs.map (avF tm)) (zs.map fun z=>a.eval z.opnd)
 |[],_,_=>rfl
 |z::zs,h,hn=>by
  simp only[List.all_cons,Bool.and_eq_true] at h;simp only[List.flatMap_cons,List.all_append,Bool.and_eq_true] at hn;exact ⟨_,_,rfl,s.arg (okB_ok h.1) (fun k e=>by have:=hn.1;rw[e] at this;simpa [XA.slot] using this) (by cases z<;>rfl),s.args h.2 hn.2⟩
theorem SimF.argLocs (s:SimF P B M tm n hp A ψ w0 a w):∀{zs:List XA},∀l∈AV.locsL (zs.map (avF tm)),A l
 |[],l,h=>by simp[AV.locsL] at h
 |z::zs,l,h=>by
  simp only[List.map_cons,AV.locsL,List.mem_append] at h;rcases h with h|h
  ·cases z<;>simp[avF,AV.locs,AV.locsL] at h;exact s.lt _ l h
  ·exact s.argLocs l h
theorem step_ok {ro:Option Nat} (hC:∀e∈C,Con P e) {x:XO} {p:Prop} {eff:Eff} (s:SimF P B M tm n hp A ψ w0 a w) (hchk:xoChk P ops o x=true) (hd:inRange n x.dst=true) (hrd:x.reads.all (· <n)=true) (hok:x.args.all XA.okB=true)
  (hlh:∀l ob,lh l=some ob→hp l=some ob) (hfr:¬A fr) (hAA:∀l,A l→A' l) (hA':A' fr) (hpl:∀l ob,eff.put=some (l,ob)→A' l) (hev:∀l∈eff.v.locs,A' l) (hep:∀l ob,eff.put=some (l,ob)→∀k∈ob.locs,A' k)
  (h:gop C lh fr (gvF tm x) x.op (x.args.map (avF tm))=some (p,eff)) (hp':p) {K:Act→World→Prop} (hK:∀ψ' a' w',SimF P B M (setF tm x.dst eff.v) n (eff.app hp) A' ψ' w0 a' w'→K a' w'):
  Up ro P ops o a w K Q:=by
 have hdst:o.dst=x.dst:=by
  unfold xoChk at hchk;simp only[Bool.and_eq_true,beq_iff_eq] at hchk;exact hchk.1.1
 refine gop_ok hC hlh hchk (s.args hok (by unfold XO.reads at hrd;rw[List.all_append,Bool.and_eq_true] at hrd;exact hrd.1)) (fun hm=>hfr (s.argLocs fr hm)) ?_ h hp' (s.ctx hfr) fun v w' hpost=>?_
 ·unfold gvF
  cases hg:x.guard with
  |none=>rfl
  |some g=>
   obtain ⟨j,t,b⟩:=g
   have ht:t<n:=by
    rw[List.all_eq_true] at hrd;have:=hrd t (by simp[XO.reads,hg]);simpa using this
   exact ⟨tm t,rfl,s.at ht,by rw[s.size];exact ht⟩
 ·rw[hdst]
  obtain ⟨ψ',hs⟩:=s.step (d:=x.dst) hfr (fun t e=>by rw[e] at hd;simpa [inRange] using hd) hAA hA' hpl hev hep hpost
  exact hK ψ' _ w' hs
def Sim (P:Program) (B:Nat) (M:Nat→Prop) (n:Nat) (st:AS) (ψ:Nat→Value) (w0:Fix) (a:Act) (w:World):Prop:=
 SimF P B M (tmG st.tm) n (look st.hp) (fun l=>l<st.nx) ψ w0 a w
theorem runT_tail {ro:Option Nat} (hC:∀e∈C,Con P e):∀(os:List Oper) (xs:List XO) (k:Nat) (tl:List Oper) (rest:List Nat),ops.toList.drop k=os++tl→listChk P n ops os xs=true→∀{st st':AS} {p:Prop},runT C st xs=some (p,st')→p→∀{ψ:Nat→Value} {a:Act} {w:World},Sim P B M n st ψ w0 a w→
  (∀ψ' a' w',Sim P B M n st' ψ' w0 a' w'→wpOpsIn (Fen ro) 0 P ops Q rest a' w')→wpOpsIn (Fen ro) 0 P ops Q (List.range' k os.length++rest) a w
 |[],xs,k,tl,rest,hk,hchk,st,st',p,h,hp',ψ,a,w,s,hQ=>by
  cases xs with
  |cons _ _=>simp[listChk] at hchk
  |nil=>
   simp only[runT,Option.some.injEq,Prod.mk.injEq] at h;obtain ⟨_,rfl⟩:=h;exact hQ ψ a w s
 |o::os,xs,k,tl,rest,hk,hchk,st,st',p,h,hp',ψ,a,w,s,hQ=>by
  cases xs with
  |nil=>simp[listChk] at hchk
  |cons x xs=>
   simp only[listChk,Bool.and_eq_true] at hchk;obtain ⟨⟨⟨⟨h1,h2⟩,h3⟩,h4⟩,h5⟩:=hchk;have hok:ops[k]?=some o:=by
    have:(ops.toList.drop k)[0]?=some o:=by rw[hk];rfl
    rw[List.getElem?_drop] at this;simpa using this
   simp only[runT] at h;split at h
   ·cases h
   ·rename_i p1 st1 hst;split at h
    ·cases h
    ·rename_i q st2 hrun;simp only[Option.some.injEq,Prod.mk.injEq] at h;obtain ⟨rfl,rfl⟩:=h;unfold stepT at hst;split at hst
     ·cases hst
     ·rename_i p2 e hg;split at hst
      ·rename_i hef;simp only[Option.some.injEq,Prod.mk.injEq] at hst;obtain ⟨rfl,rfl⟩:=hst;simp only[List.length_cons,List.range'_succ,List.cons_append,wpOpsIn,hok];unfold effOk at hef;simp only[Bool.and_eq_true] at hef;have ef1:=ltAll_mem hef.1;refine up_ops (step_ok (lh:=look st.hp) (fr:=st.nx) (A':=fun l=>l<st.nx+1) hC s h1 h2 h3 h4 (fun _ _ h=>h) (Nat.lt_irrefl _) (fun l h=>Nat.lt_succ_of_lt h) (Nat.lt_succ_self _) ?_ ef1 ?_ ?_ hp'.1 fun ψ' a' w' hs=>?_)
       ·intro l ob hput;have:=hef.2;rw[hput] at this;simp only[Bool.and_eq_true,decide_eq_true_eq] at this;exact this.1
       ·intro l ob hput;have:=hef.2;rw[hput] at this;simp only[Bool.and_eq_true] at this;exact ltAll_mem this.2
       ·rw[←gv_gvF,←hg];congr 1
       ·refine runT_tail hC os xs (k+1) tl rest (by rw[←List.tail_drop,hk];rfl) h5 hrun hp'.2 (ψ:=ψ') ?_ hQ;show SimF _ _ _ (tmG (setT st.tm x.dst e.v)) _ (look (appL e st.hp)) _ _ _ _ _;rw[setT_get,look_app];exact hs
      ·cases hst
theorem runT_ok {ro:Option Nat} (hC:∀e∈C,Con P e) (os:List Oper) (xs:List XO) (k:Nat) (hk:ops.toList.drop k=os) (hchk:listChk P n ops os xs=true) {st st':AS} {p:Prop} (h:runT C st xs=some (p,st')) (hp':p) {ψ:Nat→Value} {a:Act} {w:World} (s:Sim P B M n st ψ w0 a w)
  (hQ:∀ψ' a' w',Sim P B M n st' ψ' w0 a' w'→Q .normal a' w'):wpOpsIn (Fen ro) 0 P ops Q (List.range' k os.length) a w:=by
 have:=runT_tail (ro:=ro) (Q:=Q) hC os xs k [] [] (by rw[hk,List.append_nil]) hchk h hp' s hQ
 rwa [List.append_nil] at this
theorem region_T {ro:Option Nat} (hC:∀e∈C,Con P e) {id:Nat} {xs:List XO} {st st':AS} {p:Prop} (hchk:listChk P n ops ops.toList xs=true) (h:runT C st xs=some (p,st')) (hp':p) (s:Sim P B M n st ψ w0 a w)
  (hQ:∀ψ' a' w',Sim P B M n st' ψ' w0 a' w'→Q .normal a' w'):(Code.region id ops false).wpIn (Fen ro) 0 P Q a w:=by
 refine wpIn_region ?_
 have:=runT_ok (ro:=ro) (ops:=ops) (Q:=Q) hC ops.toList xs 0 (by simp) hchk h hp' s hQ
 rwa [Array.length_toList,←List.range_eq_range'] at this
end
end T
end Go.Proofs.YtpocfbfmjippnaaGreat
end
