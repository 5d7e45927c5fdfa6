/- Typed abstract walk, part 17: a function meets its contract. -/
import Derived.Test.YtbbpiihbhdagnaaT16
import Derived.RangeFuncOwn
namespace Go.Proofs.Ytbbpiihbhdagnaa
set_option linter.unusedVariables false
set_option linter.unusedSimpArgs false
open Go.RowKit
namespace T
structure XF where
  n : Nat
  res : List XR
  kv : List Nat
  code : XC
/-- The state at the beginning. -/
def enter (kv : List Nat) (t : Ty) (x : t.den) : AS := ⟨numb 0 (resAVs t x), [], 0, kv⟩
def freshIs (hp : Hp) (eid : TypeId) : (r : Ty) → r.den → AV → Prop
  | .sl t, d, .own l => match hp l with
    | some (.row e t' xs) => e = eid ∧ cast? (.sl t) (.sl t') xs = some d
    | _ => False
  | _, _, _ => False
/-- What the end must show. -/
def finish (rs : List XR) (many : Bool) (fresh : Option TypeId) (r : Ty) (y : r.den) (st : AS) : Prop :=
  match resAll st rs with
  | none => False
  | some avs => match fresh with
    | some eid => match avs with
      | [av] => freshIs (look st.hp) eid r y av
      | _ => False
    | none => if many then (match rdCap (look st.hp) r avs with
        | some (d, _) => d = y
        | none => False) else match avs with
      | [av] => match rd (look st.hp) r av with
        | some (d, _) => d = y
        | none => False
      | _ => False
def retQ (rs : List XR) (many : Bool) (fresh : Option TypeId) (r : Ty) (y : r.den) : XQ
  | .normal, s => finish rs many fresh r y s
  | .ret, s => finish rs many fresh r y s
  | .exit _, _ => False
section
variable (P : Program)
def chainLen : Ty → Nat
  | .cons _ b => chainLen b + 1
  | _ => 0
def funcChk (e : Ent) (xf : XF) : Bool := funcOk P e.f && decide (chainLen e.a ≤ xf.n) && (if e.many then xf.res.length != 1 else xf.res.length == 1) && match P.funcs[e.f]? with
  | some fn => fn.ntmps == xf.n && resChk P xf.n fn.results.toList xf.res && match fn.body with
    | some c => codeChk P xf.n c xf.code
    | none => false
  | none => false
end
section
variable {P : Program} {C : List Ent} {n : Nat} {B : Nat} {M : Nat → Prop} {ψ : Nat → Value} {w0 : Fix} {w : World} {a : Act}
theorem freshIs_ok {hp : Hp} {r : Ty} {d : r.den} {eid : TypeId} {av : AV} {v : Value} (h0 : HOK P B M hp ψ w) (h : freshIs hp eid r d av) (q : AVR P hp ψ w (Mu M hp ψ) av v) : Fresh P B w M eid r d v := by
  cases r <;> cases av <;> simp only [freshIs] at h <;> (try exact h.elim)
  rename_i t l
  split at h
  · rename_i e t' xs hl
    obtain ⟨rfl, hc⟩ := h
    obtain ⟨k, k'⟩ := cast?_some hc
    injection k with k; subst k
    simp only at k'; subst k'
    obtain rfl := q _ hl
    obtain ⟨cells, hown, hrow⟩ := h0.ob l _ hl
    refine ⟨cells, hown, hrow.mono fun x _ c k => k.less (fun b hb => ?_) h0.mu⟩
    rcases hb with hb | hb
    · exact .inl hb
    · exact .inr ⟨l, _, hl, hb⟩
  · exact h.elim
theorem rdl_len {M' : Nat → Prop} : ∀ {t : Ty} {d : t.den} {vs : List Value}, RdL P t w M' d vs → vs.length = chainLen t ∧ (resAVs t d).length = chainLen t
  | .nil, _, _, q => by rw [show _ = _ from q]; exact ⟨rfl, rfl⟩
  | .cons x y, _, _, ⟨v, r, e, q1, q2⟩ => by
    obtain ⟨h1, h2⟩ := rdl_len q2
    rw [e]; exact ⟨by simp [h1, chainLen], by simp [resAVs, h2, chainLen]⟩
  | .bool, _, _, q => q.elim
  | .int _, _, _, q => q.elim
  | .str, _, _, q => q.elim
  | .sl _, _, _, q => q.elim
  | .ptr _, _, _, q => q.elim
  | .st _, _, _, q => q.elim
  | .fn _ _, _, _, q => q.elim
  | .fn2 _ _ _, _, _, q => q.elim
  | .mp _ _, _, _, q => q.elim
theorem resAVs_locs : ∀ {t : Ty} {d : t.den}, ∀ av ∈ resAVs t d, av.locs = []
  | .cons x y, d, av, h => by
    simp only [resAVs, List.mem_cons] at h
    rcases h with rfl | h
    · rfl
    · exact resAVs_locs av h
  | .nil, _, _, h => by simp [resAVs] at h
  | .bool, _, _, h => by simp [resAVs] at h
  | .int _, _, _, h => by simp [resAVs] at h
  | .str, _, _, h => by simp [resAVs] at h
  | .sl _, _, _, h => by simp [resAVs] at h
  | .ptr _, _, _, h => by simp [resAVs] at h
  | .st _, _, _, h => by simp [resAVs] at h
  | .fn _ _, _, _, h => by simp [resAVs] at h
  | .fn2 _ _ _, _, _, h => by simp [resAVs] at h
  | .mp _ _, _, _, h => by simp [resAVs] at h
theorem rdcap_many {t : Ty} {hp : Hp} {avs : List AV} {d : t.den} {ls : List Nat} (h0 : HOK P B M hp ψ w) (h : rdCap hp t avs = some (d, ls)) {vs : List Value} (q : AVRs P hp ψ w (Mu M hp ψ) avs vs) : RdL P t w M d vs := by
  have := rdCap_ok h0 (fun _ _ h => h) h (ls' := ls) (fun _ h => h) q
  exact this.later ⟨Nat.le_refl _, fun _ _ _ => rfl, fun b _ h => .inl h, fun b h => h0.mb b h⟩
/-! What a shut mark leaves as it was. -/
def Ty.noFn : Ty → Bool
  | .fn _ _ => false
  | .fn2 _ _ _ => false
  | .mp _ _ => false
  | .sl t => t.noFn
  | .ptr t => t.noFn
  | .st t => t.noFn
  | .cons a b => a.noFn && b.noFn
  | _ => true
structure Shut (B : Nat) (w w' : World) : Prop where
  os : w'.os = w.os
  tape : w'.tape = w.tape
  output : w'.output = w.output
  size : w'.heap.size = w.heap.size
  block : ∀ b o, w.heap[b]? = some o → w'.heap[b]? = some o ∨ (B ≤ b ∧ o.isCells = false)
theorem Shut.refl (B : Nat) (w : World) : Shut B w w := ⟨rfl, rfl, rfl, rfl, fun _ _ h => .inl h⟩
theorem Shut.trans {B : Nat} {w w1 w2 : World} (h : Shut B w w1) (k : Shut B w1 w2) : Shut B w w2 :=
  ⟨k.os.trans h.os, k.tape.trans h.tape, k.output.trans h.output, k.size.trans h.size, fun b o q => by
    rcases h.block b o q with q1 | q1
    · exact k.block b o q1
    · exact .inr q1⟩
theorem Shut.below {B : Nat} {w0 w w' : World} (h : Below B w0 w) (k : Shut B w w') (hB : B ≤ w0.heap.size) : Below B w0 w' :=
  ⟨k.os.trans h.os, k.tape.trans h.tape, k.output.trans h.output, by rw [k.size]; exact h.size, fun b hb => by
    rw [← h.block b hb]
    have hlt : b < w.heap.size := Nat.lt_of_lt_of_le hb (Nat.le_trans hB h.size)
    rcases k.block b w.heap[b] (Array.getElem?_eq_getElem hlt) with q | q
    · rw [q, Array.getElem?_eq_getElem hlt]
    · omega⟩
theorem Shut.cells {B : Nat} {w w' : World} (k : Shut B w w') {b off : Nat} {cs : List Value} (h : CellsAt w b off cs) : CellsAt w' b off cs := fun j v hj => by
  have h1 := h j v hj
  obtain ⟨o, ho, hc⟩ := cells_of_cell h1
  rcases k.block b o ho with q | q
  · rw [World.cell?_of_block (w := w) (a := ⟨b, off + j, none⟩) (q.trans ho.symm)]; exact h1
  · rw [q.2] at hc; cases hc
theorem Rd.shut {B' : Nat} {w w' : World} {M : Nat → Prop} (k : Shut B' w w') : ∀ {t : Ty} {d : t.den} {cs : List Value}, t.noFn = true → Rd P t w M d cs → Rd P t w' M d cs
  | .bool, _, _, _, q => q
  | .int _, _, _, _, q => q
  | .str, _, _, _, q => q
  | .nil, _, _, _, q => q
  | .st t, d, _, h, q => Rd.shut (t := t) k h q
  | .cons a b, d, _, h, ⟨c1, c2, e, q1, q2⟩ => by
    unfold Ty.noFn at h
    rw [Bool.and_eq_true] at h
    exact ⟨c1, c2, e, Rd.shut (t := a) k h.1 q1, Rd.shut (t := b) k h.2 q2⟩
  | .sl t, d, _, h, ⟨A, n, c, e, h1, h2, h3, h4⟩ => by
    refine ⟨A, n, c, e, h1, h2, h3, ?_⟩
    rcases h4 with h4 | ⟨b, off, cc, e', hb, hm, hc, hr⟩
    · exact .inl h4
    · exact .inr ⟨b, off, cc, e', by rw [k.size]; exact hb, hm, k.cells hc, hr.mono fun x _ c q => Rd.shut (t := t) k h q⟩
  | .ptr t, d, _, h, ⟨b, off, cc, e', hb, hm, hc, hr⟩ => ⟨b, off, cc, e', by rw [k.size]; exact hb, hm, k.cells hc, Rd.shut (t := t) k h hr⟩
  | .fn _ _, _, _, h, _ => by cases h
  | .fn2 _ _ _, _, _, h, _ => by cases h
  | .mp _ _, _, _, h, _ => by cases h
theorem RdL.shut {B' : Nat} {w w' : World} {M : Nat → Prop} (k : Shut B' w w') : ∀ {t : Ty} {d : t.den} {vs : List Value}, t.noFn = true → RdL P t w M d vs → RdL P t w' M d vs
  | .nil, _, _, _, q => q
  | .cons a b, d, _, h, ⟨v, r, e, q1, q2⟩ => by
    unfold Ty.noFn at h
    rw [Bool.and_eq_true] at h
    exact ⟨v, r, e, ⟨q1.1, q1.2.shut k h.1⟩, RdL.shut (t := b) k h.2 q2⟩
  | .bool, _, _, _, q => q.elim
  | .int _, _, _, _, q => q.elim
  | .str, _, _, _, q => q.elim
  | .sl _, _, _, _, q => q.elim
  | .ptr _, _, _, _, q => q.elim
  | .st _, _, _, _, q => q.elim
  | .fn _ _, _, _, _, q => q.elim
  | .fn2 _ _ _, _, _, _, q => q.elim
  | .mp _ _, _, _, _, q => q.elim
theorem RdRes.shut {B' : Nat} {w w' : World} {M : Nat → Prop} (k : Shut B' w w') {many : Bool} {t : Ty} {d : t.den} {v : Value} (h : t.noFn = true) (q : RdRes P many t w M d v) : RdRes P many t w' M d v := by
  unfold RdRes at q ⊢
  split
  · rename_i c; rw [if_pos c] at q; obtain ⟨us, e, q⟩ := q; exact ⟨us, e, q.shut k h⟩
  · rename_i c; rw [if_neg c] at q; exact ⟨q.1, q.2.shut k h⟩
theorem leaves_marks {B : Nat} {fn : Func} {tmps : Array Value} {R : Ending → World → Prop} : ∀ (ds : List Deferred) (w : World), (∀ d ∈ ds, ∃ b, d = { target := .collected b, args := #[] } ∧ B ≤ b ∧ w.heap[b]? = some (.deferred (some []))) → ds.Pairwise (fun x y => x.target ≠ y.target) →
    (∀ w', Shut B w w' → ∃ v, (results fn tmps).run P w' = .ok v w' ∧ R (.returned v) w') → LeavesInM Fence.wide 0 P fn tmps R ds .returning w
  | [], w, _, _, h => h w (Shut.refl B w)
  | d :: ds, w, hm, hp, h => by
    obtain ⟨b, rfl, hB, hb⟩ := hm d (by simp)
    rw [List.pairwise_cons] at hp
    have hlt : b < w.heap.size := lt_of_block hb
    have k : Shut B w (w.putObj b (.deferred none)) := ⟨rfl, rfl, rfl, by simp, fun b' o q => by
      by_cases e : b' = b
      · subst e; rw [hb] at q; injection q with q; subst q; exact .inr ⟨hB, rfl⟩
      · rw [World.putObj_heap_other e]; exact .inl q⟩
    refine ⟨fun q => (by cases q), .inl ⟨b, _, rfl, run_takeDeferred hb, leaves_marks ds _ (fun d' hd' => ?_) hp.2 fun w' k' => h w' (k.trans k')⟩⟩
    obtain ⟨b', rfl, hB', hb'⟩ := hm d' (by simp [hd'])
    refine ⟨b', rfl, hB', ?_⟩
    have hne : b' ≠ b := fun e => hp.1 _ hd' (by rw [e])
    rw [World.putObj_heap_other hne]; exact hb'
/-- All results lie in slots. -/
def allTmp : List XR → Bool
  | [] => true
  | .tmp _ :: r => allTmp r
  | _ => false
theorem res_any {n : Nat} {tmps : Array Value} : ∀ {rs : List ResultVar} {xs : List XR}, resChk P n rs xs = true → allTmp xs = true → ∀ w1 w2 vs, (rs.mapM (resOf tmps)).run P w1 = .ok vs w1 → (rs.mapM (resOf tmps)).run P w2 = .ok vs w2
  | [], _, _, _, w1, w2, vs, h => by
    rw [List.mapM_nil] at h ⊢
    simp at h ⊢
    exact h
  | .tmp t :: rs, .tmp t' :: xs, hc, ha, w1, w2, vs, h => by
    simp only [resChk, Bool.and_eq_true] at hc
    have e0 : resOf tmps (.tmp t) = pure (tmps.getD t undef) := rfl
    rw [List.mapM_cons, e0] at h ⊢
    simp only [Sem.run_bind, Sem.run_pure, Result.andThen] at h ⊢
    cases hq : (rs.mapM (resOf tmps)).run P w1 with
    | halt x w' => rw [hq] at h; simp at h
    | ok us w' =>
      have e : w' = w1 := by
        rw [hq] at h
        simp at h
        exact h.2
      subst e
      rw [hq] at h
      rw [res_any hc.2 ha w' w2 us hq]
      simp at h ⊢
      exact h
  | .cell _ _ :: _, .cell _ _ :: _, _, ha, _, _, _, _ => by cases ha
  | .tmp _ :: _, [], hc, _, _, _, _, _ => by simp [resChk] at hc
  | .cell _ _ :: _, [], hc, _, _, _, _, _ => by simp [resChk] at hc
  | .tmp _ :: _, .cell _ _ :: _, hc, _, _, _, _, _ => by simp [resChk] at hc
  | .cell _ _ :: _, .tmp _ :: _, hc, _, _, _, _, _ => by simp [resChk] at hc
theorem results_any {n : Nat} {fn : Func} {tmps : Array Value} {xs : List XR} (hc : resChk P n fn.results.toList xs = true) (ha : allTmp xs = true) {w1 w2 : World} {v : Value} (h : (results fn tmps).run P w1 = .ok v w1) : (results fn tmps).run P w2 = .ok v w2 := by
  have e : results fn tmps = (do let vs ← fn.results.mapM (resOf tmps); pure (if h : vs.size = 1 then vs[0] else .tuple vs)) := by
    unfold results
    congr 2
  rw [e, Sem.run_bind, Array.mapM_eq_mapM_toList, Sem.run_map] at h ⊢
  cases hq : (fn.results.toList.mapM (resOf tmps)).run P w1 with
  | halt x w' => rw [hq] at h; simp [Result.andThen] at h
  | ok us w' =>
    have e : w' = w1 := by
      rw [hq] at h
      simp [Result.andThen] at h
      exact h.2
    subst e
    rw [hq] at h
    rw [res_any hc ha w' w2 us hq]
    simp [Result.andThen] at h ⊢
    exact h
/-- What is asked of a function with ranges over functions; of another one: that it has none. -/
def markOk0 (dm : Bool) (e : Ent) (xf : XF) : Bool := if dm then allTmp xf.res && e.fresh.isNone && e.r.noFn else !xf.code.hasR
def markOk (dm : Bool) (e : Ent) (xf : XF) : Bool := markOk0 dm e xf && !e.own
theorem markOk.own {dm : Bool} {e : Ent} {xf : XF} (h : markOk dm e xf = true) : e.own = false := by unfold markOk at h; simp only [Bool.and_eq_true, Bool.not_eq_true'] at h; exact h.2
/-- A function meets its contract. -/
theorem con_gen {e : Ent} (dm : Bool) (xf : XF) (hchk : funcChk P e xf = true) (hdm1 : markOk dm e xf = true) (hC : ∀ e ∈ C, Con P e) (h : ∀ x, e.pre x → xwp P C xf.n xf.code (retQ xf.res e.many e.fresh e.r (e.F x)) (enter xf.kv e.a x)) : Con P e := by
  have hown := markOk.own hdm1
  have hdm : markOk0 dm e xf = true := by unfold markOk at hdm1; rw [Bool.and_eq_true] at hdm1; exact hdm1.1
  unfold funcChk at hchk
  simp only [Bool.and_eq_true, decide_eq_true_eq] at hchk
  obtain ⟨⟨⟨hfo, hlen⟩, hmany⟩, hchk⟩ := hchk
  refine Con.to ?_ hown
  refine ⟨hfo, fun x hx w M vs hM hvs => ?_⟩
  split at hchk
  · rename_i fn hfn
    simp only [Bool.and_eq_true, beq_iff_eq] at hchk
    obtain ⟨⟨hn, hres⟩, hchk⟩ := hchk
    split at hchk
    · rename_i c hc
      obtain ⟨l1, l2⟩ := rdl_len hvs
      have hmu : ∀ b, Mu M (look []) (fun _ => undef) b ↔ M b := fun b => ⟨fun q => q.elim id (fun ⟨_, _, q, _⟩ => by simp [look] at q), .inl⟩
      have hav0 : AVRs P (look []) (fun _ => undef) w (Mu M (look []) (fun _ => undef)) (resAVs e.a x) vs := by
        have : Mu M (look []) (fun _ => undef) = M := by funext b; exact propext (hmu b)
        rw [this]
        exact resAVs_ok hvs
      have hget : ∀ t, tmG (enter xf.kv e.a x).tm t = (resAVs e.a x).getD t .top := fun t => by
        have key : ∀ (l : List AV) (k t : Nat), tmG (numb k l) (k + t) = l.getD t .top := by
          intro l
          induction l with
          | nil => intro k t; rfl
          | cons a r ih =>
            intro k t
            simp only [numb, tmG]
            cases t with
            | zero => simp
            | succ t => rw [if_neg (by omega), show k + (t + 1) = k + 1 + t by omega, ih]; rfl
        have := key (resAVs e.a x) 0 t
        rwa [Nat.zero_add] at this
      have hsim : Sim P w.heap.size M xf.n (enter xf.kv e.a x) (fun _ => undef) ⟨w, [], dm, []⟩ { tmps := vs.toArray ++ Array.replicate (fn.ntmps - vs.toArray.size) undef, defers := [] } w := by
        refine ⟨⟨fun l ob q => by simp [enter, look] at q, fun l _ _ _ _ q => by simp [enter, look] at q, hM, fun l _ _ q => by simp [enter, look] at q, Nat.le_refl _⟩, fun t => ?_, by simp [hn]; omega, ⟨fun _ => rfl, Marks.nil⟩, fun t l hl => ?_, fun l ob q => by simp [enter, look] at q, Stay.refl⟩
        · rw [hget t]
          by_cases c : t < (resAVs e.a x).length
          · obtain ⟨v, hv, hq⟩ := hav0.at (i := t) (av := (resAVs e.a x)[t]) (by simp [c])
            have e1 : (resAVs e.a x).getD t .top = (resAVs e.a x)[t] := by
              rw [List.getD_eq_getElem?_getD, List.getElem?_eq_getElem c]; rfl
            have e2 : (vs.toArray ++ Array.replicate (fn.ntmps - vs.toArray.size) undef).getD t undef = v := by
              have hlt : t < vs.length := (List.getElem?_eq_some_iff.1 hv).1
              simp only [Array.getD_eq_getD_getElem?]
              rw [Array.getElem?_append_left (by simpa using hlt)]
              simp [hv]
            rw [e1, sval, if_pos (by omega), e2]; exact hq
          · rw [List.getD_eq_getElem?_getD, List.getElem?_eq_none (by omega)]; exact trivial
        · exfalso
          rw [hget t] at hl
          by_cases c : t < (resAVs e.a x).length
          · rw [List.getD_eq_getElem?_getD, List.getElem?_eq_getElem c] at hl
            simp only [Option.getD_some] at hl
            rw [resAVs_locs _ (List.getElem_mem c)] at hl
            cases hl
          · rw [List.getD_eq_getElem?_getD, List.getElem?_eq_none (by omega)] at hl
            cases hl
      have fin : ∀ (st : AS) (ψ : Nat → Value) (a' : Act) (w' : World), Sim P w.heap.size M xf.n st ψ ⟨w, [], dm, []⟩ a' w' → finish xf.res e.many e.fresh e.r (e.F x) st → ∃ v, (results fn a'.tmps).run P w' = .ok v w' ∧ ∃ v', Ending.returned v = .returned v' ∧ Below w.heap.size w w' ∧ (match e.fresh with
          | some t => Fresh P w.heap.size w' M t e.r (e.F x) v'
          | none => RdRes P e.many e.r w' M (e.F x) v') := by
        intro st ψ a' w' s hfin
        unfold finish at hfin
        split at hfin
        · exact hfin.elim
        · rename_i avs havs
          obtain ⟨vs', hrun, hav⟩ := results_run s hres havs
          have hlv : vs'.length = xf.res.length := by rw [hav.len, resAll_len havs]
          refine ⟨_, hrun, _, rfl, s.bel.below, ?_⟩
          have lessM : Later w' (Mu M (look st.hp) ψ) w' M := ⟨Nat.le_refl _, fun _ _ _ => rfl, fun b _ h => .inl h, fun b h => s.hok.mb b h⟩
          cases hf : e.fresh with
          | some eid =>
            rw [hf] at hfin
            simp only at hfin ⊢
            split at hfin
            · rename_i av
              obtain ⟨v, rfl, hq⟩ := avr1 hav
              simp only [List.size_toArray, List.length_singleton, dite_true]
              simp only [List.getElem_toArray, List.getElem_cons_zero]
              exact freshIs_ok s.hok hfin hq
            · exact hfin.elim
          | none =>
            rw [hf] at hfin
            simp only at hfin ⊢
            unfold RdRes
            by_cases hm : e.many = true
            · rw [if_pos hm] at hfin hmany ⊢
              split at hfin
              · rename_i d ls hd
                subst hfin
                have hne : ¬ vs'.toArray.size = 1 := by
                  simp only [bne_iff_ne] at hmany
                  simpa [hlv] using hmany
                rw [dif_neg hne]
                exact ⟨vs'.toArray, rfl, by simpa using rdcap_many s.hok hd hav⟩
              · exact hfin.elim
            · rw [if_neg hm] at hfin hmany ⊢
              split at hfin
              · rename_i av
                split at hfin
                · rename_i d ls hd
                  subst hfin
                  obtain ⟨v, rfl, hq⟩ := avr1 hav
                  simp only [List.size_toArray, List.length_singleton, dite_true]
                  simp only [List.getElem_toArray, List.getElem_cons_zero]
                  have := rd_ok s.hok (fun _ _ h => h) hd hq (ls' := ls) (fun _ h => h)
                  exact this.later ⟨Nat.le_refl _, fun _ _ _ => rfl, fun b _ h => .inl h, lessM.bound⟩
                · exact hfin.elim
              · exact hfin.elim
      have hR : xf.code.hasR = true → (⟨w, [], dm, []⟩ : Fix).dm = true ∧ (none : Option Nat) = none := fun q => by
        unfold markOk0 at hdm
        cases dm with
        | true => exact ⟨rfl, rfl⟩
        | false => simp [q] at hdm
      cases dm with
      | false =>
        refine calls_of_wp hfn hc (wp_mono (wpIn_wide.1 (XW_of (h x hx) c hchk hC _ M ⟨w, [], false, []⟩ _ _ _ hsim none hR)) ?_)
        intro ex a' w' q
        cases ex with
        | normal => obtain ⟨st, ψ, q1, q2⟩ := q; exact ⟨q1.defers.1 rfl, fin st ψ a' w' q1 q2⟩
        | ret => obtain ⟨st, ψ, q1, q2⟩ := q; exact ⟨q1.defers.1 rfl, fin st ψ a' w' q1 q2⟩
        | exit i => obtain ⟨st, ψ, q1, q2⟩ := q; exact q2.elim
        | _ => exact q.elim
      | true =>
        unfold markOk0 at hdm
        simp only [if_true, Bool.and_eq_true, Option.isNone_iff_eq_none] at hdm
        obtain ⟨⟨hat, hfr⟩, hnf⟩ := hdm
        refine callsIn_wide.1 (callsIn_of_wp_marks (F := Fence.wide) (n := 0) hfn hc trivial (wpIn_mono (XW_of (h x hx) c hchk hC _ M ⟨w, [], true, []⟩ _ _ _ hsim none hR) ?_))
        have fin2 : ∀ (st : AS) (ψ : Nat → Value) (a' : Act) (w' : World), Sim P w.heap.size M xf.n st ψ ⟨w, [], true, []⟩ a' w' → finish xf.res e.many e.fresh e.r (e.F x) st → LeavesInM Fence.wide 0 P fn a'.tmps (fun en w' => ∃ v, en = .returned v ∧ Below w.heap.size w w' ∧ (match e.fresh with
            | some t => Fresh P w.heap.size w' M t e.r (e.F x) v
            | none => RdRes P e.many e.r w' M (e.F x) v)) a'.defers .returning w' := by
          intro st ψ a' w' s hfin
          obtain ⟨v, hrun, v', hv, hbel, hres'⟩ := fin st ψ a' w' s hfin
          have hms := s.defers.2
          rw [List.append_nil] at hms
          refine leaves_marks (B := w.heap.size) _ _ (fun d hd => ?_) hms.2 fun w2 k => ⟨v, results_any hres hat hrun, v', hv, k.below hbel (Nat.le_refl _), ?_⟩
          · obtain ⟨b, e1, hB, b2, e2, _, _, h3⟩ := hms.1 d hd
            simp only [Value.pointer.injEq, Option.some.injEq, Addr.mk.injEq, and_true] at e2
            subst e2
            exact ⟨b, e1, hB, h3⟩
          · rw [hfr] at hres' ⊢
            exact RdRes.shut k hnf hres'
        intro ex a' w' q
        cases ex with
        | normal => obtain ⟨st, ψ, q1, q2⟩ := q; exact fin2 st ψ a' w' q1 q2
        | ret => obtain ⟨st, ψ, q1, q2⟩ := q; exact fin2 st ψ a' w' q1 q2
        | exit i => obtain ⟨st, ψ, q1, q2⟩ := q; exact q2.elim
        | _ => exact q.elim
    · cases hchk
  · cases hchk
theorem con_of {e : Ent} (xf : XF) (hchk : (funcChk P e xf && markOk false e xf) = true) (hC : ∀ e ∈ C, Con P e) (h : ∀ x, e.pre x → xwp P C xf.n xf.code (retQ xf.res e.many e.fresh e.r (e.F x)) (enter xf.kv e.a x)) : Con P e := by
  rw [Bool.and_eq_true] at hchk
  exact con_gen false xf hchk.1 hchk.2 hC h
theorem con_ofM {e : Ent} (xf : XF) (hchk : (funcChk P e xf && markOk true e xf) = true) (hC : ∀ e ∈ C, Con P e) (h : ∀ x, e.pre x → xwp P C xf.n xf.code (retQ xf.res e.many e.fresh e.r (e.F x)) (enter xf.kv e.a x)) : Con P e := by
  rw [Bool.and_eq_true] at hchk
  exact con_gen true xf hchk.1 hchk.2 hC h
end
end T
end Go.Proofs.Ytbbpiihbhdagnaa
