/- Parts of the proof of the law; no condition. -/
import Derived.Test.YtpocfbfmjippnaaGreatG10
set_option linter.all false
section
namespace Go.Proofs.YtpocfbfmjippnaaGreat
namespace T
abbrev DWorld:=Int×List DArc×List DCar×List DReq×List DPair×DShift
def allIn (most:Int) (l:List Int):Bool:=l.all fun n=>decide (0≤n∧n≤most)
def carB (m:Int) (c:DCar):Bool:=allIn m [c.2.1]&&(allIn 1048576 [c.2.2.1,c.2.2.2.1]&&(decide (c.2.2.1≤c.2.2.2.1)&&allIn 60 [c.2.2.2.2.1,c.2.2.2.2.2.1,c.2.2.2.2.2.2.1]))
def reqB (m:Int) (q:DReq):Bool:=(allIn 1048576 [q.2.2.2.1,q.2.2.2.2.1,q.2.2.2.2.2.1,q.2.2.2.2.2.2.1]&&decide (q.2.2.2.1≤q.2.2.2.2.1))&&(allIn 3999 [q.1]&&(allIn m [q.2.1,q.2.2.1]&&allIn 60 [q.2.2.2.2.2.2.2.1,q.2.2.2.2.2.2.2.2.1,q.2.2.2.2.2.2.2.2.2]))
def prB (p:DPair):Bool:=allIn 3999 [p.1,p.2.1]
def rightP (w:DWorld):Bool:=
 (rightR w.1 w.2.1&&decide (w.2.2.1.length≤600∧w.2.2.2.1.length≤30000∧w.2.2.2.2.1.length≤4000))&&(w.2.2.1.all (carB (w.1-1))&&(w.2.2.2.1.all (reqB (w.1-1))&&(w.2.2.2.2.1.all prB&&rightK w.2.2.2.2.2 [] [])))
theorem rightR_n {n:Int} {A:List DArc} (h:rightR n A=true):1≤n∧n≤2000∧A.length≤20000∧∀a∈A,(toArc a).rightB=true∧a.1<n∧a.2.1<n:=by
 unfold rightR at h;simp only[Bool.and_eq_true,decide_eq_true_eq,List.all_eq_true] at h;exact ⟨h.1,h.2.1,h.2.2.1,fun a ha=>by have:=h.2.2.2 a ha;exact ⟨this.1,this.2.1,this.2.2⟩⟩
theorem rightP_iff {w:DWorld}:rightP w=true↔rightR w.1 w.2.1=true∧(w.2.2.1.length≤600∧w.2.2.2.1.length≤30000∧w.2.2.2.2.1.length≤4000)∧(∀c∈w.2.2.1,carB (w.1-1) c=true)∧(∀q∈w.2.2.2.1,reqB (w.1-1) q=true)∧(∀p∈w.2.2.2.2.1,prB p=true)∧rightK w.2.2.2.2.2 [] []=true:=by
 unfold rightP;simp only[Bool.and_eq_true,decide_eq_true_eq,List.all_eq_true,and_assoc]
end T
end Go.Proofs.YtpocfbfmjippnaaGreat
end
section
namespace Go.Proofs.YtpocfbfmjippnaaGreat
theorem runLen {late:Bool} {E:Nat→Move} {m:Nat}:∀(f:Nat) (L:List DLab) (S:List Bool),(runF late E m f L S).length=L.length
 |0,_,_=>rfl
 |f+1,L,S=>by
  unfold runF;split
  ·rfl
  ·rw[runLen f,relaxTo_length]
namespace T
theorem earlyLen {n:Int} {A:List DArc} (h:rightR n A=true) (src start:Int) (hi:Bool):(earlyF n A src start hi).1.length≤2000:=by
 unfold earlyF;split
 ·exact Nat.zero_le _
 ·have:=rightR_n h;dsimp only;unfold searchF;rw[runLen,List.length_set,List.length_replicate];omega
def minI (a b:Int):Int:=if b<a then b else a
def lowB (L:List Int) (f:Nat):Nat→Int
 |0=>L.getD (f % 24) 0
 |i+1=>minI (lowB L f i) (L.getD ((f+(i+1)) % 24) 0)
def highB (L:List Int) (f:Nat):Nat→Int
 |0=>L.getD (f % 24) 0
 |i+1=>maxI (highB L f i) (L.getD ((f+(i+1)) % 24) 0)
def hoursN (f t:Int):Nat:=min ((t / 60).toNat-(f / 60).toNat) 23
def bndF (a:DArc) (f t:Int):DLeg:=(lowB a.2.2.1 (f / 60).toNat (hoursN f t),highB a.2.2.2 (f / 60).toNat (hoursN f t))
def legStep (A:List DArc) (e l:Int) (out:DLeg) (k:Int):DLeg:=(out.1+(bndF (A.getD k.toNat (0,0,[],[])) (e+out.1) (l+out.2)).1,out.2+(bndF (A.getD k.toNat (0,0,[],[])) (e+out.1) (l+out.2)).2)
def legWay (w:DWorld) (f t:Int) (x:DWin):List Int:=wayF (earlyF w.1 w.2.1 f x.1 true).1 w.2.1 t
def legF (w:DWorld) (f t:Int) (x:DWin):DLeg×Bool:=
 if f=t then ((0,0),true) else ((legWay w f t x).foldl (legStep w.2.1 x.1 x.2) (0,0),decide (legWay w f t x≠[]))
theorem minI_le (a b:Int):minI a b≤a∧minI a b≤b∧(minI a b=a∨minI a b=b):=by unfold minI;split<;>omega
theorem hours_at {a:Arc} (h:a.right) {k:Nat} (hk:k<24):0≤a.L.getD k 0∧a.L.getD k 0≤a.H.getD k 0∧a.H.getD k 0≤600:=h.2.2.2.2 k hk
theorem low_bd {a:Arc} (h:a.right) (f:Nat):∀i,0≤lowB a.L f i∧lowB a.L f i≤highB a.H f i∧highB a.H f i≤600
 |0=>hours_at h (Nat.mod_lt _ (by omega))
 |i+1=>by
  have h1:=low_bd h f i;have h2:=hours_at h (k:=(f+(i+1)) % 24) (Nat.mod_lt _ (by omega));have h3:=minI_le (lowB a.L f i) (a.L.getD ((f+(i+1)) % 24) 0);show 0≤minI _ _∧minI _ _≤maxI _ _∧maxI _ _≤600;unfold maxI;split<;>omega
theorem wayGo_in {L:List DLab} {A:List (Int×Int×List Int×List Int)}:∀(f:Nat) (to:Int) (out:List Int),∀i∈wayGo L A f to out,i∈out∨0≤i∧i<A.length
 |0,to,out=>by
  unfold wayGo;split
  ·exact fun i h=>.inl h
  ·exact fun i h=>absurd h List.not_mem_nil
 |f+1,to,out=>by
  unfold wayGo;split
  ·exact fun i h=>.inl h
  split
  ·exact fun i h=>absurd h List.not_mem_nil
  rename_i c;intro i h;rcases wayGo_in f _ _ i h with h|h
  ·rcases List.mem_cons.1 h with rfl|h
   ·exact .inr ⟨by omega,by omega⟩
   ·exact .inl h
  ·exact .inr h
theorem wayF_in {L:List DLab} {A:List (Int×Int×List Int×List Int)} {to:Int}:∀i∈wayF L A to,0≤i∧i<A.length:=by
 unfold wayF;split
 ·exact fun i h=>absurd h List.not_mem_nil
 ·exact fun i h=>(wayGo_in _ _ _ i h).resolve_left List.not_mem_nil
theorem wayGo_len {L:List DLab} {A:List (Int×Int×List Int×List Int)}:∀(f:Nat) (to:Int) (out:List Int),(wayGo L A f to out).length≤f+out.length
 |0,to,out=>by
  unfold wayGo;split
  ·omega
  ·exact Nat.zero_le _
 |f+1,to,out=>by
  unfold wayGo;split
  ·omega
  split
  ·exact Nat.zero_le _
  have:=wayGo_len (L:=L) (A:=A) f ((A.getD (L.getD to.toNat (0,0)).2.toNat (0,0,[],[])).1) ((L.getD to.toNat (0,0)).2::out);rw[List.length_cons] at this;omega
theorem wayF_len {L:List DLab} {A:List (Int×Int×List Int×List Int)} {to:Int}:(wayF L A to).length≤L.length:=by
 unfold wayF;split
 ·exact Nat.zero_le _
 ·exact wayGo_len _ _ _
theorem leg_fold {A:List DArc} (hA:∀a∈A,(toArc a).rightB=true) (e l:Int):∀(W:List Int),(∀i∈W,0≤i∧i<A.length)→∀out:DLeg,0≤out.1→out.1≤out.2→0≤(W.foldl (legStep A e l) out).1∧(W.foldl (legStep A e l) out).1≤(W.foldl (legStep A e l) out).2∧(W.foldl (legStep A e l) out).2≤out.2+600*W.length
 |[],_,out,h0,h1=>⟨h0,h1,by simp⟩
 |i::W,hW,out,h0,h1=>by
  have hi:=hW i (by simp);have hm:A.getD i.toNat (0,0,[],[])∈A:=getD_mem2 (by omega);have hr:(toArc (A.getD i.toNat (0,0,[],[]))).right:=of_decide_eq_true (hA _ hm);have hb:=low_bd hr ((e+out.1) / 60).toNat (hoursN (e+out.1) (l+out.2));have ih:=leg_fold hA e l W (fun j hj=>hW j (by simp[hj])) (legStep A e l out i) (by unfold legStep bndF;dsimp only at hb⊢;omega) (by unfold legStep bndF;dsimp only at hb⊢;omega);rw[List.foldl_cons,List.length_cons];have e2:(legStep A e l out i).2≤out.2+600:=by unfold legStep bndF;dsimp only at hb⊢;omega
  omega
theorem legWay_len {w:DWorld} (h:rightP w=true) (f t:Int) (x:DWin):(legWay w f t x).length≤2000:=Nat.le_trans wayF_len (earlyLen (rightP_iff.1 h).1 _ _ _)
theorem leg_bd {w:DWorld} (h:rightP w=true) (f t:Int) (x:DWin) (k:Nat):0≤(((legWay w f t x).take k).foldl (legStep w.2.1 x.1 x.2) (0,0)).1∧(((legWay w f t x).take k).foldl (legStep w.2.1 x.1 x.2) (0,0)).1≤(((legWay w f t x).take k).foldl (legStep w.2.1 x.1 x.2) (0,0)).2∧(((legWay w f t x).take k).foldl (legStep w.2.1 x.1 x.2) (0,0)).2≤1200000:=by
 have h1:=leg_fold (A:=w.2.1) (fun a ha=>((rightR_n (rightP_iff.1 h).1).2.2.2 a ha).1) x.1 x.2 ((legWay w f t x).take k) (fun i hi=>wayF_in i (List.mem_of_mem_take hi)) (0,0) (Int.le_refl _) (Int.le_refl _);have h2:=legWay_len h f t x;rw[List.length_take] at h1;dsimp only at h1;omega
end T
end Go.Proofs.YtpocfbfmjippnaaGreat
end
