/- Parts of the proof of the law; no condition. -/
import Derived.Test.YtpocfbfmjippnaaGreatH6
set_option linter.all false
section
namespace Go.Proofs.YtpocfbfmjippnaaGreat
open Go.RowKit Go.IntWalk
def betterB (late:Bool) (a b:Int):Bool:=if b<0 then true else if late then decide (b<a) else decide (a<b)
def pickTo (late:Bool) (L:List DLab) (S:List Bool):Nat→Int
 |0=>-1
 |k+1=>if S.getD k false=false∧0≤(L.getD k (0,0)).1∧(pickTo late L S k<0∨betterB late (L.getD k (0,0)).1 (L.getD (pickTo late L S k).toNat (0,0)).1=true) then (k:Int) else pickTo late L S k
def reachF (late:Bool) (S:List Bool) (L:List DLab) (v:Nat) (t by_:Int):List DLab:=
 if S.getD v false=true∨timeB t=false then L else
 if betterB late t (L.getD v (0,0)).1=true∨t=(L.getD v (0,0)).1∧by_<(L.getD v (0,0)).2 then L.set v (t,by_) else L
abbrev Move:=Int×Int×(Int→Int)
def relaxTo (late:Bool) (E:Nat→Move) (S:List Bool) (u:Nat):Nat→List DLab→List DLab
 |0,L=>L
 |k+1,L=>if (E k).1=u then reachF late S (relaxTo late E S u k L) (E k).2.1.toNat ((E k).2.2 ((relaxTo late E S u k L).getD u (0,0)).1) k else relaxTo late E S u k L
def runF (late:Bool) (E:Nat→Move) (m:Nat):Nat→List DLab→List Bool→List DLab
 |0,L,_=>L
 |f+1,L,S=>if pickTo late L S L.length<0 then L else runF late E m f (relaxTo late E (S.set (pickTo late L S L.length).toNat true) (pickTo late L S L.length).toNat m L) (S.set (pickTo late L S L.length).toNat true)
def searchF (late:Bool) (E:Nat→Move) (m n at_:Nat) (t:Int):List DLab:=runF late E m n ((List.replicate n ((-1:Int),(-1:Int))).set at_ (t,-1)) (List.replicate n false)
def relaxL (late:Bool) (E:Nat→Move) (S:List Bool) (u:Nat) (W:List Int) (L:List DLab):List DLab:=W.foldl (fun L i=>reachF late S L (E i.toNat).2.1.toNat ((E i.toNat).2.2 (L.getD u (0,0)).1) i) L
theorem reachF_length {late:Bool} {S:List Bool} {L:List DLab} {v:Nat} {t by_:Int}:(reachF late S L v t by_).length=L.length:=by
 unfold reachF;repeat' split
 all_goals simp
theorem relaxL_length {late:Bool} {E:Nat→Move} {S:List Bool} {u:Nat} (W:List Int):∀L,(relaxL late E S u W L).length=L.length:=by
 unfold relaxL;induction W with
 |nil=>intro L;rfl
 |cons i W ih=>intro L;rw[List.foldl_cons,ih,reachF_length]
theorem relaxTo_length {late:Bool} {E:Nat→Move} {S:List Bool} {u:Nat} {L:List DLab}:∀k,(relaxTo late E S u k L).length=L.length
 |0=>rfl
 |k+1=>by
  unfold relaxTo;split
  ·rw[reachF_length,relaxTo_length k]
  ·exact relaxTo_length k
theorem relaxL_take {late:Bool} {E:Nat→Move} {S:List Bool} {u:Nat} {W:List Int} {L:List DLab} {j:Nat} (hj:j<W.length):relaxL late E S u (W.take (j+1)) L=reachF late S (relaxL late E S u (W.take j) L) (E (W.getD j 0).toNat).2.1.toNat ((E (W.getD j 0).toNat).2.2 ((relaxL late E S u (W.take j) L).getD u (0,0)).1) (W.getD j 0):=by
 unfold relaxL;rw[List.take_add_one,List.getElem?_eq_getElem hj,List.foldl_append,List.getD_eq_getElem?_getD,List.getElem?_eq_getElem hj];rfl
theorem relaxL_all {late:Bool} {E:Nat→Move} {S:List Bool} {u:Nat} {p:Nat→Bool} (L:List DLab):∀m,(∀k<m,p k=true↔(E k).1=u)→relaxL late E S u (List.map (fun (i:Nat)=>(i:Int)) ((List.range m).filter p)) L=relaxTo late E S u m L
 |0,_=>rfl
 |m+1,h=>by
  rw[List.range_succ,List.filter_append,List.map_append];have ih:=relaxL_all (late:=late) (E:=E) (S:=S) L m fun k hk=>h k (Nat.lt_succ_of_lt hk);unfold relaxTo;have hm:=h m (by omega);unfold relaxL at ih⊢;rw[List.foldl_append,ih];cases hp:p m with
  |true=>rw[if_pos (hm.1 hp)];simp[hp]
  |false=>rw[if_neg fun h2=>by rw[hm.2 h2] at hp;cases hp];simp[hp]
def moveE (A:List (Int×Int×List Int×List Int)) (hi:Bool) (i:Nat):Move:=((A.getD i (0,0,[],[])).1,(A.getD i (0,0,[],[])).2.1,(T.toArc (A.getD i (0,0,[],[]))).passF hi)
theorem pickTo_bd (late:Bool) (L:List DLab) (S:List Bool):∀k,-1≤pickTo late L S k∧pickTo late L S k<k
 |0=>⟨Int.le_refl (-1),(by decide:(-1:Int)<0)⟩
 |k+1=>by
  have:=pickTo_bd late L S k;unfold pickTo;split<;>omega
theorem pickTo_un (late:Bool) (L:List DLab) (S:List Bool):∀k,0≤pickTo late L S k→S.getD (pickTo late L S k).toNat false=false∧0≤(L.getD (pickTo late L S k).toNat (0,0)).1
 |0=>fun h=>absurd (show (0:Int)≤ -1 from h) (by decide)
 |k+1=>fun h=>by
  by_cases hc:S.getD k false=false∧0≤(L.getD k (0,0)).1∧(pickTo late L S k<0∨betterB late (L.getD k (0,0)).1 (L.getD (pickTo late L S k).toNat (0,0)).1=true)
  ·have e:pickTo late L S (k+1)=(k:Int):=by
    conv=>lhs;unfold pickTo
    rw[if_pos hc]
   rw[e];exact ⟨hc.1,hc.2.1⟩
  ·have e:pickTo late L S (k+1)=pickTo late L S k:=by
    conv=>lhs;unfold pickTo
    rw[if_neg hc]
   rw[e] at h⊢;exact pickTo_un late L S k h
theorem runF_end {late:Bool} {E:Nat→Move} {m:Nat} {L:List DLab} {S:List Bool} (h:pickTo late L S L.length<0):∀f,runF late E m f L S=L
 |0=>rfl
 |f+1=>by rw[runF,if_pos h]
theorem count_settle {S:List Bool} {u:Nat} (hu:u<S.length) (h:S.getD u false=false):(S.set u true).count false+1=S.count false:=by
 rw[List.getD_eq_getElem?_getD,List.getElem?_eq_getElem hu] at h;replace h:S[u]=false:=h;have h2:0<S.count false:=List.count_pos_iff.2 (h▸List.getElem_mem hu);rw[List.count_set hu,h];simp;omega
theorem runF_go {late:Bool} {E:Nat→Move} {m:Nat} {L:List DLab} {S:List Bool} (hS:S.length=L.length) {u:Nat} (e:pickTo late L S L.length=u):runF late E m (S.count false) L S=runF late E m ((S.set u true).count false) (relaxTo late E (S.set u true) u m L) (S.set u true):=by
 have h1:=pickTo_bd late L S L.length;have h2:=pickTo_un late L S L.length (by omega);rw[e] at h1 h2;rw[show (u:Int).toNat=u from rfl] at h2;rw[←count_settle (by omega) h2.1,runF,if_neg (by omega),e];rfl
namespace T
abbrev DSr:=List DLab×List Bool×Bool
def entBetter:Ent:=⟨234,.cons Z12 (.cons Z1 (.cons Z1 .nil)),.bool,false,none,fun _=>True,fun x=>betterB (x.1:DSr).2.2 x.2.1 x.2.2.1⟩
def csBe:List Ent:=[] theorem hcsBe (f:FuncId):findEnt csBe f=findEnt [] f:=rfl
theorem conBetter:Con Tryz.prog entBetter:=by
 refine con_is (C:=csBe) x234 (by kernel_rfl) (by simp[csBe]) fun x hx hf=>?_;obtain ⟨⟨(L:List DLab),(S:List Bool),(late:Bool)⟩,(a:Int),(b:Int),_⟩:=x;dsimp only[entBetter,x234];simp only[↓hcsBe,go_sem];simp only[td,reduceCtorEq];unfold betterB;refine ⟨fun h=>by rw[if_pos h],fun h=>⟨fun h2=>?_,fun h2=>?_⟩⟩
 ·rw[if_neg (Int.not_lt.2 h),h2,if_pos rfl]
 ·rw[if_neg (Int.not_lt.2 h),h2];simp
def earlyF (n:Int) (A:List DArc) (src start:Int) (hi:Bool):List DLab×Int×Unit:=
 if (rightR n A&&(decide (0≤src)&&(decide (src<n)&&timeB start)))=false then ([],1,()) else (searchF false (moveE A hi) A.length n.toNat src.toNat start,0,())
def outsTo (key:DArc→Int) (A:List DArc) (n k:Nat):List (List Int):=List.map (fun (u:Nat)=>List.map (fun (i:Nat)=>(i:Int)) ((List.range k).filter fun i=>decide (key (A.getD i (0,0,[],[]))=(u:Int)))) (List.range n)
abbrev outsF (key:DArc→Int) (A:List DArc) (n:Nat):List (List Int):=outsTo key A n A.length
theorem outsTo_len {key:DArc→Int} {A:List DArc} {n k:Nat} (u:Nat):((outsTo key A n k).getD u []).length≤k:=by
 unfold outsTo;rw[List.getD_eq_getElem?_getD,List.getElem?_map];by_cases h:u<n
 ·rw[List.getElem?_range h];simp only[Option.map_some,Option.getD_some,List.length_map];exact Nat.le_trans (List.length_filter_le _ _) (by simp)
 ·rw[List.getElem?_eq_none (by simpa using h)];simp
theorem outsTo_zero {key:DArc→Int} {A:List DArc} {n:Nat}:outsTo key A n 0=List.replicate n []:=by
 unfold outsTo;apply List.ext_getElem<;>simp
theorem outsTo_succ {key:DArc→Int} {A:List DArc} {n k u:Nat} (h:key (A.getD k (0,0,[],[]))=(u:Int)) (hu:u<n):outsTo key A n (k+1)=(outsTo key A n k).set u ((outsTo key A n k).getD u []++[(k:Int)]):=by
 have e:(outsTo key A n k).getD u []=List.map (fun (i:Nat)=>(i:Int)) ((List.range k).filter fun i=>decide (key (A.getD i (0,0,[],[]))=(u:Int))):=by
  unfold outsTo;rw[List.getD_eq_getElem?_getD,List.getElem?_map,List.getElem?_range hu];rfl
 rw[e];unfold outsTo;apply List.ext_getElem
 ·simp
 ·intro i h1 h2;simp only[List.length_map,List.length_range] at h1;rw[List.getElem_set];simp only[List.getElem_map,List.getElem_range,List.range_succ,List.filter_append,List.map_append];by_cases c:u=i
  ·subst c;rw[if_pos rfl,List.filter_cons_of_pos (by rw[h];simp)];rfl
  ·rw[if_neg c,List.filter_cons_of_neg (by rw[h];simp;omega)];simp
theorem locsL_set:∀{vs:List Value} {u l:Nat},u<vs.length→AV.locsL ((vs.map AV.cst).set u (.own l))=[l]
 |v::vs,0,l,_=>by
  have:∀us:List Value,AV.locsL (us.map AV.cst)=[]:=fun us=>by
   induction us with
   |nil=>rfl
   |cons x r ih=>rw[List.map_cons,AV.locsL,ih];rfl
  rw[List.map_cons,List.set_cons_zero,AV.locsL,this];rfl
 |v::vs,u+1,l,h=>by
  rw[List.map_cons,List.set_cons_succ,AV.locsL,locsL_set (by simpa using h)];rfl
theorem splice_set {vs:List Value} {u:Nat} {x y:AV} (h:u<vs.length):List.take u ((vs.map AV.cst).set u x)++[y]++List.drop (u+1) ((vs.map AV.cst).set u x)=(vs.map AV.cst).set u y:=by
 rw[List.take_set_of_le (Nat.le_refl u),List.drop_set_of_lt (Nat.lt_succ_self u),List.set_eq_take_append_cons_drop,if_pos (by simpa using h)];simp
def entEarly:Ent:=⟨184,.cons Z1 (.cons Z13 (.cons Z1 (.cons Z1 (.cons .bool .nil)))),.cons Z9 (.cons Z1 .nil),true,none,fun _=>True,fun x=>earlyF x.1 x.2.1 x.2.2.1 x.2.2.2.1 x.2.2.2.2.1⟩
def csEa:List Ent:=[entRoad,entIsTime,entRepeat,entPass,entBetter] theorem hcsEa (f:FuncId):findEnt csEa f=findEnt [entRoad,entIsTime,entRepeat,entPass,entBetter] f:=rfl
set_option maxHeartbeats 2000000 in
theorem conEarly:Con Tryz.prog entEarly:=by
 refine con_isM (C:=csEa) x184 (by kernel_rfl) (by simp[csEa,conRoad,conIsTime,conRepeat,conPass,conBetter]) fun x hx hf=>?_;obtain ⟨(n:Int),(A:List DArc),(src:Int),(start:Int),(hi:Bool),_⟩:=x;dsimp only[entEarly,x184,Z12,Z13,Z14,Z8,Z9,Za,Zb,Zc,Ze,Zf,Zh];simp only[locsL_rep,↓hcsEa,entRoad,entIsTime,entRepeat,entPass,entBetter,go_sem];simp only[td,reduceCtorEq];try dsimp only[Ty.den]
 refine ⟨fun h=>?_,fun h=>⟨⟨by omega,?_⟩,?_⟩⟩
 ·unfold earlyF;rw[if_pos];cases h1:rightR n A with
  |false=>rfl
  |true=>
   rw[Bool.true_and,Bool.and_eq_false_iff,Bool.and_eq_false_iff,decide_eq_false_iff_not,decide_eq_false_iff_not];rcases h with ((h|h)|h)|h
   ·rw[h1] at h;cases h
   ·exact .inl (by omega)
   ·exact .inr (.inl (by omega))
   ·exact .inr (.inr h)
 ·have:=(rightR_all h.1.1.1).1;omega
 obtain ⟨⟨n1,n2⟩,hAl,hall⟩:=rightR_all h.1.1.1;obtain ⟨n,rfl⟩:∃m:Nat,n=m:=⟨n.toNat,by omega⟩;obtain ⟨src,rfl⟩:∃m:Nat,src=m:=⟨src.toNat,by omega⟩;refine XW_top ?_;refine XW_rowsN 0 29 (12::x184_0d) [0,1,2] (fun k=>[(41,.val Z1 (k:Int))]) A.length 12 24 23 n 204 31 3 (outsTo (fun a=>a.1) A n) (fun k=>(A.getD k (0,0,[],[])).1.toNat) 49 (fun k=>(outsTo (fun a=>a.1) A n k).getD (A.getD k (0,0,[],[])).1.toNat []++[(k:Int)]) ?_ ?_ ?_ (by decide) ?_ outsTo_zero ?_ ?_ ?_
 ·rfl
 ·rfl
 ·simp only[go_sem]
 ·intro v;dsimp only[AS.with,x184_0d];simp only[go_sem];rfl
 rotate_left
 ·intro v;dsimp only[AS.with,x184_0,x184_0d];simp only[↓hcsEa,entRoad,entIsTime,entRepeat,entPass,entBetter,go_sem];exact fun h=>absurd (of_decide_eq_true h) (Int.lt_irrefl _)
 ·intro k hk;have ha:=hall (A.getD k (0,0,[],[])) (by rw[List.getD_eq_getElem?_getD,List.getElem?_eq_getElem hk];exact List.getElem_mem hk);have hu:(A.getD k (0,0,[],[])).1.toNat<n:=by have:=ha.2.1;omega
  refine ⟨hu,outsTo_succ (by have:=ha.2.1;omega) hu,fun vs hvs=>?_⟩;have g1:((vs.map AV.cst).set (A.getD k (0,0,[],[])).1.toNat (.own 29))[(A.getD k (0,0,[],[])).1.toNat]?=some (.own 29):=by
   rw[List.getElem?_set_self (by simpa [hvs] using hu)]
  have g2:(A.getD k (0,0,[],[])).1.toNat+1≤((vs.map AV.cst).set (A.getD k (0,0,[],[])).1.toNat (.own 29)).length:=by
   rw[List.length_set,List.length_map,hvs];omega
  have g3:∀l,AV.locsL ((vs.map AV.cst).set (A.getD k (0,0,[],[])).1.toNat (.own l))=[l]:=fun l=>locsL_set (by rw[hvs];exact hu);have g4:∀l,List.take (A.getD k (0,0,[],[])).1.toNat ((vs.map AV.cst).set (A.getD k (0,0,[],[])).1.toNat (.own 29))++[.own l]++List.drop ((A.getD k (0,0,[],[])).1.toNat+1) ((vs.map AV.cst).set (A.getD k (0,0,[],[])).1.toNat (.own 29))=(vs.map AV.cst).set (A.getD k (0,0,[],[])).1.toNat (.own l):=fun l=>splice_set (by rw[hvs];exact hu);dsimp only[AS.with,x184_0,x184_0d];simp only[g1,g2,g3,g4,↓hcsEa,entRoad,entIsTime,entRepeat,entPass,entBetter,go_sem];have hl:=outsTo_len (key:=fun a=>a.1) (A:=A) (n:=n) (k:=k) (A.getD k (0,0,[],[])).1.toNat;have h2:=ha.2.1;exact ⟨fun _=>⟨⟨by omega,by omega⟩,⟨⟨h2.1,h2.2⟩,by omega,h2.1,h2.2⟩,i64_in _ (by omega)⟩,fun h=>absurd (decide_eq_true (show (k:Int)<A.length by omega)) (by rw[h];decide)⟩
 dsimp only[AS.with,x184_0d,x218];simp only[↓hcsEa,entRoad,entIsTime,entRepeat,entPass,entBetter,go_sem];simp only[td,reduceCtorEq];refine ⟨⟨Int.le_trans n2 (by decide),by rw[show (((1:Nat):Int))=1 from rfl];omega⟩,by rw[List.length_replicate];omega,fun r hr=>?_⟩;rw[show (List.replicate n ((-1:Int),(-1:Int))).getD src (0,0)=(-1,-1) by rw[List.getD_eq_getElem?_getD,List.getElem?_replicate,if_pos (by omega)];rfl];dsimp only[y219];simp only[↓hcsEa,entRoad,entIsTime,entRepeat,entPass,entBetter,go_sem];refine XW_for 1000 y219_0d [0,1,2,36,38,41,54,58] (List DLab×List Bool) (fun _=>[]) (fun s=>[(36,.row 263 Z8 s.1),(38,.row 4 .bool s.2)])
  (fun s=>s.1.length=n∧s.2.length=n∧runF false (moveE A hi) A.length (s.2.count false) s.1 s.2=searchF false (moveE A hi) A.length n src start) (fun s=>s.2.count false) ((List.replicate n ((-1:Int),(-1:Int))).set src (start,-1),List.replicate n false) ?_ ?_ ?_
 ·dsimp only[y219_0d];simp only[go_sem]
 ·exact ⟨by simp,by simp,by simp[searchF]⟩
 ·rintro ⟨L,S⟩ ⟨hL,hS,hrun⟩;dsimp only at hL hS hrun;dsimp only[y219_0,y219_0d];simp only[↓hcsEa,entRoad,entIsTime,entRepeat,entPass,entBetter,go_sem];try simp only[td,reduceCtorEq]
  refine XW_for 2000 y219_1d [0,1,2,36,38,41,54,58] Nat (fun j=>[(4,.val Z1 (pickTo false L S j)),(12,.val Z1 (j:Int))]) (fun _=>[]) (fun j=>j≤n) (fun j=>n-j) 0 ?_ ?_ ?_
  ·dsimp only[y219_1d];simp only[go_sem];exact ⟨rfl,rfl⟩
  ·exact Nat.zero_le n
  ·intro j hj;dsimp only[y219_1,y219_1d];simp only[↓hcsEa,entRoad,entIsTime,entRepeat,entPass,entBetter,go_sem];try simp only[td,reduceCtorEq]
   have hbd:=pickTo_bd false L S j;have w2:IntKind.i64.wrap ((j:Int)+1)=((j+1:Nat):Int):=i64_in _ (by omega);refine ⟨fun hj'=>⟨hj',⟨by omega,by omega,fun h=>⟨h,h.2,by omega⟩,fun h=>⟨h,by omega⟩,fun h=>⟨h,fun h'=>⟨h,h'⟩⟩⟩,fun h=>⟨j+1,by omega,by omega,?_,w2⟩,fun h=>⟨j+1,by omega,by omega,?_,w2⟩⟩,fun hj'=>?_⟩
   ·rw[pickTo,if_pos ⟨h.1.1,h.1.2,h.2⟩]
   ·rw[pickTo,if_neg];rintro ⟨h1,h2,h3⟩;have h4:=h ⟨h1,h2⟩;rcases h3 with h3|h3
    ·omega
    ·rw[h4.2] at h3;cases h3
   have ej:j=L.length:=by omega
   subst ej;refine ⟨fun hp=>?_,fun hp=>⟨⟨⟨hp,by omega⟩,by omega⟩,hr,?_⟩⟩
   ·rw[←runF_end hp,hrun];unfold earlyF;rw[if_neg]
    ·rfl
    ·rw[h.1.1.1,decide_eq_true h.1.1.2,decide_eq_true h.1.2,h.2];simp
   obtain ⟨u,hu⟩:∃u:Nat,pickTo false L S L.length=u:=⟨(pickTo false L S L.length).toNat,by omega⟩;have hgo:=runF_go (E:=moveE A hi) (m:=A.length) (by omega) hu;have hun:=(pickTo_un false L S L.length hp).1;rw[hu] at hun;replace hun:S.getD u false=false:=hun;rw[hu] at hbd hp⊢;clear hu hp;dsimp only[x184_A,x184_B];simp only[↓hcsEa,entRoad,entIsTime,entRepeat,entPass,entBetter,go_sem];try simp only[td,reduceCtorEq]
   have hlt:u<n:=by omega
   have hD:(outsF (fun a=>a.1) A n).getD u []=List.map (fun (i:Nat)=>(i:Int)) ((List.range A.length).filter fun i=>decide ((A.getD i (0,0,[],[])).1=(u:Int))):=by
    unfold outsF outsTo;rw[List.getD_eq_getElem?_getD,List.getElem?_map,List.getElem?_range hlt];rfl
   refine ⟨by unfold outsTo;simpa using hlt,?_⟩;have hW:∀i∈(outsF (fun a=>a.1) A n).getD u [],0≤i∧i<A.length∧(A.getD i.toNat (0,0,[],[])).1=u:=by
    intro i hi;rw[hD] at hi;obtain ⟨k,hk,rfl⟩:=List.mem_map.1 hi;have:=List.mem_filter.1 hk;exact ⟨by omega,by have:=List.mem_range.1 this.1;omega,of_decide_eq_true this.2⟩
   have hWl:((outsF (fun a=>a.1) A n).getD u []).length≤20000:=by
    rw[hD,List.length_map];exact Nat.le_trans (List.length_filter_le _ _) (by rw[List.length_range];exact hAl)
   have hall':=relaxL_all (late:=false) (E:=moveE A hi) (S:=S.set u true) (u:=u) (p:=fun i=>decide ((A.getD i (0,0,[],[])).1=(u:Int))) L A.length (fun k _=>decide_eq_true_iff);rw[←hD] at hall';generalize (outsF (fun a=>a.1) A n).getD u []=W at hW hWl hall';refine XW_for 3000 x184_1d [0,1,2,36,38,41,54,58] Nat (fun j=>[(71,.val Z1 (j:Int))]) (fun j=>[(36,.row 263 Z8 (relaxL false (moveE A hi) (S.set u true) u (W.take j) L))]) (fun j=>j≤W.length) (fun j=>W.length-j) 0 ?_ ?_ ?_
   ·dsimp only[x184_1d];simp only[go_sem];exact ⟨rfl,rfl⟩
   ·exact Nat.zero_le _
   ·intro j hj;dsimp only[x184_1,x184_1d,x220,Z1,Z11,Z12,Z13,Z8,Z9,Za,Zc,Ze,Zg,Zh];have hl:=relaxL_length (late:=false) (E:=moveE A hi) (S:=S.set u true) (u:=u) (W.take j) L;simp only[↓hcsEa,entRoad,entIsTime,entRepeat,entPass,entBetter,go_sem];try simp only[td,reduceCtorEq]
    refine ⟨fun hjl=>?_,fun hjl=>⟨(relaxTo false (moveE A hi) (S.set u true) u A.length L,S.set u true),?_,⟨by rw[relaxTo_length];exact hL,by rw[List.length_set];exact hS,by rw[←hrun,hgo]⟩,by rw[List.take_of_length_le (by omega)];exact hall',rfl⟩⟩
    ·have w2:IntKind.i64.wrap ((j:Int)+1)=((j+1:Nat):Int):=i64_in _ (by omega);have hm:=hW (W.getD j 0) (by rw[List.getD_eq_getElem?_getD,List.getElem?_eq_getElem hjl];exact List.getElem_mem hjl);have hk:=hall (A.getD (W.getD j 0).toNat (0,0,[],[])) (by rw[List.getD_eq_getElem?_getD,List.getElem?_eq_getElem (show (W.getD j 0).toNat<A.length by omega)];exact List.getElem_mem _);have e1:=relaxL_take (late:=false) (E:=moveE A hi) (S:=S.set u true) (u:=u) (L:=L) hjl;dsimp only[moveE] at e1;generalize relaxL false (moveE A hi) (S.set u true) u (W.take j) L=R at hl e1⊢;generalize (toArc (A.getD (W.getD j 0).toNat (0,0,[],[]))).passF hi (R.getD u (0,0)).1=t at e1⊢;generalize (A.getD (W.getD j 0).toNat (0,0,[],[])).2.1=v at e1 hk⊢;have hs:(S.set u true).length=n:=by rw[List.length_set];exact hS
     have hR:R.length=n:=by omega
     have hv:v.toNat<n:=by omega
     refine ⟨hjl,⟨⟨hm.1,hm.2.1⟩,⟨hm.1,hm.2.1⟩,by omega⟩,⟨⟨hk.2.2.1,by omega⟩,by omega⟩,fun h=>⟨j+1,by omega,by omega,w2,?_⟩,fun h=>⟨⟨hk.2.2.1,by omega⟩,⟨by omega,fun h=>⟨h,by omega⟩,fun h=>⟨h,by omega⟩,fun h=>⟨h,fun _=>⟨h,by assumption⟩⟩⟩,fun h1=>⟨by omega,j+1,by omega,by omega,w2,?_⟩,fun h1=>⟨j+1,by omega,by omega,w2,?_⟩⟩⟩
     ·rw[e1,reachF,if_pos h]
     ·rw[e1,reachF,if_neg (by rintro (h2|h2)<;>rw[h2] at h<;>first|cases h.1|cases h.2),if_pos h1]
     ·rw[e1,reachF,if_neg (by rintro (h2|h2)<;>rw[h2] at h<;>first|cases h.1|cases h.2),if_neg (by
       rintro (h2|h2)
       ·rw[h1.1] at h2;cases h2
       ·have:=h1.2 h2.1;omega)]
    ·show (S.set u true).count false<S.count false;have:=count_settle (S:=S) (u:=u) (by omega) (by assumption);omega
end T
end Go.Proofs.YtpocfbfmjippnaaGreat
end
