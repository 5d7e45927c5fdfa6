/- Typed abstract walk, part 20: what is known of every datum that is read: ints within their kind, lengths within Go's. -/
import Derived.Test.YtbbpiihbhdagnaaT19
namespace Go.Proofs.Ytbbpiihbhdagnaa
set_option linter.unusedVariables false
set_option linter.unusedSimpArgs false
open Go.RowKit
namespace T
def Fit : (t : Ty) → t.den → Prop
  | .bool, _ => True
  | .int k, d => k.min ≤ d ∧ d ≤ k.max
  | .str, d => d.size ≤ maxLen
  | .sl t, d => d.length ≤ maxLen ∧ ∀ x ∈ d, Fit t x
  | .ptr t, d => Fit t d
  | .st t, d => Fit t d
  | .nil, _ => True
  | .cons a b, d => Fit a d.1 ∧ Fit b d.2
  | .fn _ _, _ => True
  | .fn2 _ _ _, _ => True
  | .mp k _, d => (d.map (·.1)).Nodup ∧ ∀ p ∈ d, k.min ≤ p.1 ∧ p.1 ≤ k.max
section
variable {P : Program} {C : List Ent}
theorem RowsBy.all {α : Type} {R : α → List Value → Prop} {p : α → Prop} (h : ∀ x c, R x c → p x) : ∀ {xs : List α} {cs : List Value}, RowsBy R xs cs → ∀ x ∈ xs, p x
  | [], _, _, x, hx => by simp at hx
  | y :: ys, _, ⟨c, r, _, h1, h2⟩, x, hx => by
    rcases List.mem_cons.1 hx with rfl | hx
    · exact h _ _ h1
    · exact RowsBy.all h h2 x hx
theorem Rd.fit {w : World} {M : Nat → Prop} : ∀ {t : Ty} {d : t.den} {cs : List Value}, Rd P t w M d cs → Fit t d
  | .bool, _, _, _ => trivial
  | .int _, _, _, h => h.2
  | .str, _, _, h => h.2
  | .sl t, d, _, ⟨A, n, c, _, h1, h2, h3, h4⟩ => by
    have h1' : List.length d = n := h1
    refine ⟨by show List.length d ≤ _; omega, ?_⟩
    rcases h4 with rfl | ⟨b, off, cc, _, _, _, _, hr⟩
    · intro x hx
      have : d = [] := List.eq_nil_of_length_eq_zero h1'
      rw [this] at hx
      exact absurd hx List.not_mem_nil
    · exact RowsBy.all (p := Fit t) (fun x c q => Rd.fit q) hr
  | .ptr t, d, _, ⟨_, _, _, _, _, _, _, h⟩ => Rd.fit (t := t) h
  | .st t, d, _, h => Rd.fit (t := t) h
  | .nil, _, _, _ => trivial
  | .cons a b, d, _, ⟨_, _, _, h1, h2⟩ => ⟨Rd.fit (t := a) h1, Rd.fit (t := b) h2⟩
  | .fn _ _, _, _, _ => trivial
  | .fn2 _ _ _, _, _, _ => trivial
  | .mp k t, d, _, ⟨_, es, _, _, _, _, _, hst, hes, hv⟩ => by
    refine ⟨?_, fun p hp => (hv p hp).1⟩
    have h1 := hst.2.2
    have h2 : es.toList.map (·.key) = (d.map (·.1)).map (Value.int k) := by
      have := congrArg (List.map Prod.fst) hes
      rw [List.map_map, List.map_map] at this
      rw [List.map_map]
      exact this
    rw [h2, List.Nodup, List.pairwise_map] at h1
    exact h1.imp fun h e => h (by rw [e])
theorem RdL.fit {w : World} {M : Nat → Prop} : ∀ {t : Ty} {d : t.den} {vs : List Value}, RdL P t w M d vs → Fit t d
  | .nil, _, _, _ => trivial
  | .cons a b, d, _, ⟨_, _, _, h1, h2⟩ => ⟨h1.2.fit, RdL.fit (t := b) h2⟩
  | .bool, _, _, h => h.elim
  | .int _, _, _, h => h.elim
  | .str, _, _, h => h.elim
  | .sl _, _, _, h => h.elim
  | .ptr _, _, _, h => h.elim
  | .st _, _, _, h => h.elim
  | .fn _ _, _, _, h => h.elim
  | .fn2 _ _ _, _, _, h => h.elim
  | .mp _ _, _, _, h => h.elim
theorem con_fit {e : Ent} (ho : e.own = false) (h1 : Con P ⟨e.f, e.a, e.r, e.many, e.fresh, fun x => e.pre x ∧ Fit e.a x, e.F⟩) : Con P e :=
  have h := h1.is ho
  Con.to ⟨h.1, fun x hx w M vs hM hvs => h.2 x ⟨hx, hvs.fit⟩ w M vs hM hvs⟩ ho
theorem markOk.own2 {dm : Bool} {e : Ent} {xf : XF} {p : Bool} (h : (p && markOk dm e xf) = true) : e.own = false := by rw [Bool.and_eq_true] at h; exact markOk.own h.2
/-- A function meets its contract; the arguments' ranges are known. -/
theorem con_is {e : Ent} (xf : XF) (hchk : (funcChk P e xf && markOk false e xf) = true) (hC : ∀ e ∈ C, Con P e) (h : ∀ x, e.pre x → Fit e.a x → xwp P C xf.n xf.code (retQ xf.res e.many e.fresh e.r (e.F x)) (enter xf.kv e.a x)) : Con P e :=
  con_fit (markOk.own2 hchk) (con_of xf hchk hC fun x hx => h x hx.1 hx.2)
/-- The same for a function with a range over a function. -/
theorem con_isM {e : Ent} (xf : XF) (hchk : (funcChk P e xf && markOk true e xf) = true) (hC : ∀ e ∈ C, Con P e) (h : ∀ x, e.pre x → Fit e.a x → xwp P C xf.n xf.code (retQ xf.res e.many e.fresh e.r (e.F x)) (enter xf.kv e.a x)) : Con P e :=
  con_fit (markOk.own2 hchk) (con_ofM xf hchk hC fun x hx => h x hx.1 hx.2)
/-- Nothing behind a loop is looked at before the loop is done. -/
@[congr] theorem XW_congr {n : Nat} {c : XC} {Q : XQ} {st st' : AS} (h : st = st') : XW P C n c Q st = XW P C n c Q st' := by rw [h]
@[congr] theorem xwp_congr {n : Nat} {c : XC} {Q : XQ} {st st' : AS} (h : st = st') : xwp P C n c Q st = xwp P C n c Q st' := by rw [h]
variable {n : Nat} {Q : XQ} {st : AS} {a b : XC}
def thn (P : Program) (C : List Ent) (n : Nat) (b : XC) (Q : XQ) : XQ := XQ.seq (xwp P C n b Q) Q
theorem thn_n : thn P C n b Q .normal st = xwp P C n b Q st := rfl
theorem thn_e {i : Nat} : thn P C n b Q (.exit i) st = Q (.exit i) st := rfl
theorem thn_r : thn P C n b Q .ret st = Q .ret st := rfl
theorem xwp_seq : xwp P C n (.seq a b) Q st = xwp P C n a (thn P C n b Q) st := rfl
theorem xwp_skip : xwp P C n .skip Q st = Q .normal st := rfl
theorem xwp_ret : xwp P C n .ret Q st = Q .ret st := rfl
theorem xwp_exit {i : Nat} : xwp P C n (.exit i) Q st = Q (.exit i) st := rfl
theorem xwp_block {i : Nat} : xwp P C n (.block i b) Q st = xwp P C n b (XQ.blk i Q) st := rfl
theorem xwp_loop : xwp P C n (.loop b) Q st = XW P C n (.loop b) Q st := rfl
theorem xwp_icall {d : Bool} {pre : List XO} {cx : XO} {post : List XO} {f : FuncId} {n' : Nat} {res : List XR} {kv : List Nat} {body : XC} : xwp P C n (.icall d pre cx post f n' res kv body) Q st = match runR C d st pre with
    | some (p, s1) => p ∧ match cx.args.map (XA.av s1.tm) with
      | .clo f' cap :: bs => f' = f ∧ (bs ++ cap).length ≤ n' ∧ xwp P C n' body (backQ n' s1.kv (keepI s1 post) cx.dst res (afterI C post Q)) (entI n' kv (bs ++ cap) (keepI s1 post) s1)
      | _ => False
    | none => False := rfl
theorem backQ_n {n' : Nat} {kv0 keep : List Nat} {d : Option Nat} {res : List XR} {K : AS → Prop} {s : AS} : backQ n' kv0 keep d res K .normal s = match resAll s res with
    | some avs => K (exI n' kv0 keep d (oneAV avs) s)
    | none => False := rfl
theorem backQ_r {n' : Nat} {kv0 keep : List Nat} {d : Option Nat} {res : List XR} {K : AS → Prop} {s : AS} : backQ n' kv0 keep d res K .ret s = match resAll s res with
    | some avs => K (exI n' kv0 keep d (oneAV avs) s)
    | none => False := rfl
theorem backQ_e {n' : Nat} {kv0 keep : List Nat} {d : Option Nat} {res : List XR} {K : AS → Prop} {s : AS} {i : Nat} : backQ n' kv0 keep d res K (.exit i) s = False := rfl
theorem xwp_reg {d : Bool} {xs : List XO} : xwp P C n (.reg d xs) Q st = match runR C d st xs with
    | some (p, st') => p ∧ Q .normal st'
    | none => False := rfl
theorem xwp_cond {c : XA} : xwp P C n (.cond c a b) Q st = match condOf (c.av st.tm) with
    | some t => (t.1 → xwp P C n a Q st) ∧ (t.2 → xwp P C n b Q st)
    | none => False := rfl
theorem xwp_clean : xwp P C n (.clean a) Q st = xwp P C n a Q (cleanS st) := rfl
theorem xwp_top {c : XC} : xwp P C n (.top c) Q st = XW P C n (.top c) Q st := rfl
theorem xwp_dead : xwp P C n .dead Q st = False := rfl
theorem xwp_nxt {d t : Nat} {post : List XO} : xwp P C n (.nxt d t post) Q st = match tmG st.tm t with
    | .ptr l 0 => match look st.hp l with
      | some (.it k ty left _) => (left = [] → afterI C post Q (nxF st d)) ∧ ∀ i p, left[i]? = some p → afterI C post Q (nxT st d l k ty left i p)
      | _ => False
    | _ => False := rfl
theorem xwp_rfor {g : XA} {p : Nat} {xA xB : XC} {f : FuncId} {n' : Nat} {kv : List Nat} {body : XC} : xwp P C n (.rfor g p xA xB f n' kv body) Q st = match g.av st.tm with
    | .bnd f' avs => f' = f ∧ avs.length + 1 ≤ n' ∧ st.kv.all (· < n) = true ∧ p < n ∧ ∀ r, LoopOk P n p xA xB r → xwp P C n' body (backR n n' st.kv st.nx r Q) (entR n n' kv avs r st)
    | _ => False := rfl
def rndA (P : Program) (C : List Ent) (ky l nE : Nat) (r : Loop) (xB : XC) (kv0 kp : List Nat) (d : Option Nat) (post : List XO) (Q : XQ) : XQ :=
  XQ.rnd fun s => hasLp s (nE + ky) l false r (xwp P C nE xB (XQ.rnd fun s => hasLp s (nE + ky) l true r (afterI C post Q (exI nE kv0 kp d (.val .bool true) (setLp false l r s)))) (setLp true l r s))
def rndB (C : List Ent) (ky l nE : Nat) (r : Loop) (kv0 kp : List Nat) (d : Option Nat) (post : List XO) (Q : XQ) : XQ :=
  XQ.rnd fun s => hasLp s (nE + ky) l true r (afterI C post Q (exI nE kv0 kp d (.val .bool true) (setLp false l r s)))
theorem rndA_n {ky l nE : Nat} {r : Loop} {xB : XC} {kv0 kp : List Nat} {d : Option Nat} {post : List XO} : rndA P C ky l nE r xB kv0 kp d post Q .normal st = hasLp st (nE + ky) l false r (xwp P C nE xB (rndB C ky l nE r kv0 kp d post Q) (setLp true l r st)) := rfl
theorem rndB_n {ky l nE : Nat} {r : Loop} {kv0 kp : List Nat} {d : Option Nat} {post : List XO} : rndB C ky l nE r kv0 kp d post Q .normal st = hasLp st (nE + ky) l true r (afterI C post Q (exI nE kv0 kp d (.val .bool true) (setLp false l r st))) := rfl
theorem rndA_x {ky l nE i : Nat} {r : Loop} {xB : XC} {kv0 kp : List Nat} {d : Option Nat} {post : List XO} : rndA P C ky l nE r xB kv0 kp d post Q (.exit i) st = False := rfl
theorem rndB_x {ky l nE i : Nat} {r : Loop} {kv0 kp : List Nat} {d : Option Nat} {post : List XO} : rndB C ky l nE r kv0 kp d post Q (.exit i) st = False := rfl
theorem rndA_r {ky l nE : Nat} {r : Loop} {xB : XC} {kv0 kp : List Nat} {d : Option Nat} {post : List XO} : rndA P C ky l nE r xB kv0 kp d post Q .ret st = False := rfl
theorem rndB_r {ky l nE : Nat} {r : Loop} {kv0 kp : List Nat} {d : Option Nat} {post : List XO} : rndB C ky l nE r kv0 kp d post Q .ret st = False := rfl
theorem xwp_yld {pre : List XO} {cx : XO} {post : List XO} {ky nE p : Nat} {kvB : List Nat} {xA xB : XC} : xwp P C n (.yld pre cx post ky nE p kvB xA xB) Q st = match runT C st pre with
    | some (q, s1) => q ∧ match cx.args.map (XA.av s1.tm) with
      | [.yl l ks avs, b] => match look s1.hp l with
        | some (.lp false r) => LoopOk P nE p xA xB r ∧ p < nE ∧ ks.all (· < nE) = true ∧ s1.kv.contains ky = true ∧ hasLp s1 ky l false r
          (xwp P C nE xA (rndA P C ky l nE r xB s1.kv (keepI s1 post) cx.dst post Q) (entY nE p kvB b ks avs (keepI s1 post) s1))
        | _ => False
      | _ => False
    | none => False := rfl
theorem backR_n {n0 n' l : Nat} {kv0 : List Nat} {r : Loop} : backR n0 n' kv0 l r Q .normal st = hasLp st (n' + n0) l false r (Q .normal ⟨kv0.map fun k => (k, tmG st.tm (n' + k)), killL st.hp [l], st.nx, kv0⟩) := rfl
theorem backR_r {n0 n' l : Nat} {kv0 : List Nat} {r : Loop} : backR n0 n' kv0 l r Q .ret st = hasLp st (n' + n0) l false r (Q .normal ⟨kv0.map fun k => (k, tmG st.tm (n' + k)), killL st.hp [l], st.nx, kv0⟩) := rfl
theorem backR_e {n0 n' l i : Nat} {kv0 : List Nat} {r : Loop} : backR n0 n' kv0 l r Q (.exit i) st = False := rfl
theorem hasLp_mk {tm : List (Nat × AV)} {hp : List (Nat × OB)} {nx : Nat} {kv : List Nat} {t l : Nat} {b : Bool} {r : Loop} {K : Prop} : hasLp ⟨tm, hp, nx, kv⟩ t l b r K = match tmG tm t with
  | .yl l' _ _ => match look hp l with
    | some (.lp bs r') => l' = l ∧ bs = b ∧ r' = r ∧ K
    | _ => False
  | _ => False := rfl
theorem eqf (b : Bool) : (b == false) = !b := by cases b <;> rfl
theorem eqt (b : Bool) : (b == true) = b := by cases b <;> rfl
theorem bif_and (a b : Bool) : (bif a then b else false) = (a && b) := by cases a <;> rfl
theorem bif_or (a b : Bool) : (bif a then true else b) = (a || b) := by cases a <;> rfl
theorem eq_of_iff {a b : Bool} (h : a = true ↔ b = true) : a = b := Bool.eq_iff_iff.2 h
end
section
/-- No operation of the region turns anything. -/
def quiet : List Tr → Bool
  | [] => true
  | t :: r => t.e.tch.isEmpty && quiet r
theorem quiet_ok : ∀ {ts : List Tr} (_ : quiet ts = true) (i : Nat), okD i ts = true
  | [], _, _ => rfl
  | t :: r, h, i => by
    unfold quiet at h
    simp only [Bool.and_eq_true, List.isEmpty_iff] at h
    have h2 : ∀ {r : List Tr}, quiet r = true → ∀ b ∈ r, b.e.tch = [] := by
      intro r
      induction r with
      | nil => intro _ b hb; cases hb
      | cons c r ih =>
        intro hq b hb
        unfold quiet at hq
        simp only [Bool.and_eq_true, List.isEmpty_iff] at hq
        rcases List.mem_cons.1 hb with rfl | hb
        · exact hq.1
        · exact ih hq.2 b hb
    unfold okD
    rw [Bool.and_eq_true]
    refine ⟨List.all_eq_true.2 fun b hb => ?_, quiet_ok h.2 _⟩
    split
    · rfl
    · unfold meet
      rw [h.1, h2 h.2 b hb]
      rfl
def fastD (P : Option (Prop × AS × List Tr)) : Option (Prop × AS) := match P with
  | none => none
  | some (p, st', ts) => if quiet ts = true then some (p, st') else if okD 0 ts = true then some (p, st') else none
theorem runR_true {C : List Ent} {st : AS} {xs : List XO} : runR C true st xs = fastD (runD C st xs) := by
  unfold runR
  rw [if_pos rfl]
  cases runD C st xs with
  | none => rfl
  | some r =>
    obtain ⟨p, st', ts⟩ := r
    unfold fastD
    simp only
    by_cases h : quiet ts = true
    · rw [if_pos h, if_pos (quiet_ok h 0)]
    · rw [if_neg h]
theorem runR_false {C : List Ent} {st : AS} {xs : List XO} : runR C false st xs = runT C st xs := rfl
end
end T
end Go.Proofs.Ytbbpiihbhdagnaa
