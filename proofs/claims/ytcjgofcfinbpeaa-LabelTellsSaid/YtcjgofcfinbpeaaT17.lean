/- Typed abstract walk, part 17: a function meets its contract. -/
import Derived.Test.YtcjgofcfinbpeaaT16
namespace Go.Proofs.Ytcjgofcfinbpeaa
set_option linter.unusedVariables false
set_option linter.unusedSimpArgs false
open Go.RowKit
namespace T
structure XF where
  n : Nat
  res : List XR
  kv : List Nat
  code : XC
/-- The state at the beginning. -/
def enter (kv : List Nat) (t : Ty) (x : t.den) : AS := ⟨numb 0 (resAVs t x), [], 0, kv⟩
def freshIs (hp : Hp) (eid : TypeId) : (r : Ty) → r.den → AV → Prop
  | .sl t, d, .own l => match hp l with
    | some (.row e t' xs) => e = eid ∧ cast? (.sl t) (.sl t') xs = some d
    | _ => False
  | _, _, _ => False
/-- What the end must show. -/
def finish (rs : List XR) (many : Bool) (fresh : Option TypeId) (r : Ty) (y : r.den) (st : AS) : Prop :=
  match resAll st rs with
  | none => False
  | some avs => match fresh with
    | some eid => match avs with
      | [av] => freshIs (look st.hp) eid r y av
      | _ => False
    | none => if many then (match rdCap (look st.hp) r avs with
        | some (d, _) => d = y
        | none => False) else match avs with
      | [av] => match rd (look st.hp) r av with
        | some (d, _) => d = y
        | none => False
      | _ => False
def retQ (rs : List XR) (many : Bool) (fresh : Option TypeId) (r : Ty) (y : r.den) : XQ
  | .normal, s => finish rs many fresh r y s
  | .ret, s => finish rs many fresh r y s
  | .exit _, _ => False
section
variable (P : Program)
def chainLen : Ty → Nat
  | .cons _ b => chainLen b + 1
  | _ => 0
def funcChk (e : Ent) (xf : XF) : Bool := funcOk P e.f && decide (chainLen e.a ≤ xf.n) && (if e.many then xf.res.length != 1 else xf.res.length == 1) && match P.funcs[e.f]? with
  | some fn => fn.ntmps == xf.n && resChk P xf.n fn.results.toList xf.res && match fn.body with
    | some c => codeChk P xf.n c xf.code
    | none => false
  | none => false
end
section
variable {P : Program} {C : List Ent} {n : Nat} {B : Nat} {M : Nat → Prop} {ψ : Nat → Value} {w0 : Fix} {w : World} {a : Act}
theorem freshIs_ok {hp : Hp} {r : Ty} {d : r.den} {eid : TypeId} {av : AV} {v : Value} (h0 : HOK P B M hp ψ w) (h : freshIs hp eid r d av) (q : AVR P hp ψ w (Mu M hp ψ) av v) : Fresh P B w M eid r d v := by
  cases r <;> cases av <;> simp only [freshIs] at h <;> (try exact h.elim)
  rename_i t l
  split at h
  · rename_i e t' xs hl
    obtain ⟨rfl, hc⟩ := h
    obtain ⟨k, k'⟩ := cast?_some hc
    injection k with k; subst k
    simp only at k'; subst k'
    obtain rfl := q _ hl
    obtain ⟨cells, hown, hrow⟩ := h0.ob l _ hl
    refine ⟨cells, hown, hrow.mono fun x _ c k => k.less (fun b hb => ?_) h0.mu⟩
    rcases hb with hb | hb
    · exact .inl hb
    · exact .inr ⟨l, _, hl, hb⟩
  · exact h.elim
theorem rdl_len {M' : Nat → Prop} : ∀ {t : Ty} {d : t.den} {vs : List Value}, RdL P t w M' d vs → vs.length = chainLen t ∧ (resAVs t d).length = chainLen t
  | .nil, _, _, q => by rw [show _ = _ from q]; exact ⟨rfl, rfl⟩
  | .cons x y, _, _, ⟨v, r, e, q1, q2⟩ => by
    obtain ⟨h1, h2⟩ := rdl_len q2
    rw [e]; exact ⟨by simp [h1, chainLen], by simp [resAVs, h2, chainLen]⟩
  | .bool, _, _, q => q.elim
  | .int _, _, _, q => q.elim
  | .str, _, _, q => q.elim
  | .sl _, _, _, q => q.elim
  | .ptr _, _, _, q => q.elim
  | .st _, _, _, q => q.elim
  | .fn _ _, _, _, q => q.elim
  | .fn2 _ _ _, _, _, q => q.elim
theorem resAVs_locs : ∀ {t : Ty} {d : t.den}, ∀ av ∈ resAVs t d, av.locs = []
  | .cons x y, d, av, h => by
    simp only [resAVs, List.mem_cons] at h
    rcases h with rfl | h
    · rfl
    · exact resAVs_locs av h
  | .nil, _, _, h => by simp [resAVs] at h
  | .bool, _, _, h => by simp [resAVs] at h
  | .int _, _, _, h => by simp [resAVs] at h
  | .str, _, _, h => by simp [resAVs] at h
  | .sl _, _, _, h => by simp [resAVs] at h
  | .ptr _, _, _, h => by simp [resAVs] at h
  | .st _, _, _, h => by simp [resAVs] at h
  | .fn _ _, _, _, h => by simp [resAVs] at h
  | .fn2 _ _ _, _, _, h => by simp [resAVs] at h
theorem rdcap_many {t : Ty} {hp : Hp} {avs : List AV} {d : t.den} {ls : List Nat} (h0 : HOK P B M hp ψ w) (h : rdCap hp t avs = some (d, ls)) {vs : List Value} (q : AVRs P hp ψ w (Mu M hp ψ) avs vs) : RdL P t w M d vs := by
  have := rdCap_ok h0 (fun _ _ h => h) h (ls' := ls) (fun _ h => h) q
  exact this.later ⟨Nat.le_refl _, fun _ _ _ => rfl, fun b _ h => .inl h, fun b h => Nat.lt_of_lt_of_le (h0.mb b h) h0.bz⟩
/-- A function meets its contract. -/
theorem con_of {e : Ent} (xf : XF) (hchk : funcChk P e xf = true) (hC : ∀ e ∈ C, Con P e) (h : ∀ x, e.pre x → xwp P C xf.n xf.code (retQ xf.res e.many e.fresh e.r (e.F x)) (enter xf.kv e.a x)) : Con P e := by
  unfold funcChk at hchk
  simp only [Bool.and_eq_true, decide_eq_true_eq] at hchk
  obtain ⟨⟨⟨hfo, hlen⟩, hmany⟩, hchk⟩ := hchk
  refine ⟨hfo, fun x hx w M vs hM hvs => ?_⟩
  split at hchk
  · rename_i fn hfn
    simp only [Bool.and_eq_true, beq_iff_eq] at hchk
    obtain ⟨⟨hn, hres⟩, hchk⟩ := hchk
    split at hchk
    · rename_i c hc
      obtain ⟨l1, l2⟩ := rdl_len hvs
      have hmu : ∀ b, Mu M (look []) (fun _ => undef) b ↔ M b := fun b => ⟨fun q => q.elim id (fun ⟨_, _, q, _⟩ => by simp [look] at q), .inl⟩
      have hav0 : AVRs P (look []) (fun _ => undef) w (Mu M (look []) (fun _ => undef)) (resAVs e.a x) vs := by
        have : Mu M (look []) (fun _ => undef) = M := by funext b; exact propext (hmu b)
        rw [this]
        exact resAVs_ok hvs
      have hget : ∀ t, tmG (enter xf.kv e.a x).tm t = (resAVs e.a x).getD t .top := fun t => by
        have key : ∀ (l : List AV) (k t : Nat), tmG (numb k l) (k + t) = l.getD t .top := by
          intro l
          induction l with
          | nil => intro k t; rfl
          | cons a r ih =>
            intro k t
            simp only [numb, tmG]
            cases t with
            | zero => simp
            | succ t => rw [if_neg (by omega), show k + (t + 1) = k + 1 + t by omega, ih]; rfl
        have := key (resAVs e.a x) 0 t
        rwa [Nat.zero_add] at this
      have hsim : Sim P w.heap.size M xf.n (enter xf.kv e.a x) (fun _ => undef) ⟨w, []⟩ { tmps := vs.toArray ++ Array.replicate (fn.ntmps - vs.toArray.size) undef, defers := [] } w := by
        refine ⟨⟨fun l ob q => by simp [enter, look] at q, fun l _ _ _ _ q => by simp [enter, look] at q, hM, Nat.le_refl _⟩, fun t => ?_, by simp [hn]; omega, rfl, fun t l hl => ?_, fun l ob q => by simp [enter, look] at q, Below.refl _ _⟩
        · rw [hget t]
          by_cases c : t < (resAVs e.a x).length
          · obtain ⟨v, hv, hq⟩ := hav0.at (i := t) (av := (resAVs e.a x)[t]) (by simp [c])
            have e1 : (resAVs e.a x).getD t .top = (resAVs e.a x)[t] := by
              rw [List.getD_eq_getElem?_getD, List.getElem?_eq_getElem c]; rfl
            have e2 : (vs.toArray ++ Array.replicate (fn.ntmps - vs.toArray.size) undef).getD t undef = v := by
              have hlt : t < vs.length := (List.getElem?_eq_some_iff.1 hv).1
              simp only [Array.getD_eq_getD_getElem?]
              rw [Array.getElem?_append_left (by simpa using hlt)]
              simp [hv]
            rw [e1, sval, if_pos (by omega), e2]; exact hq
          · rw [List.getD_eq_getElem?_getD, List.getElem?_eq_none (by omega)]; exact trivial
        · exfalso
          rw [hget t] at hl
          by_cases c : t < (resAVs e.a x).length
          · rw [List.getD_eq_getElem?_getD, List.getElem?_eq_getElem c] at hl
            simp only [Option.getD_some] at hl
            rw [resAVs_locs _ (List.getElem_mem c)] at hl
            cases hl
          · rw [List.getD_eq_getElem?_getD, List.getElem?_eq_none (by omega)] at hl
            cases hl
      refine calls_of_wp hfn hc (wp_mono (XW_of (h x hx) c hchk hC _ M ⟨w, []⟩ _ _ _ hsim) ?_)
      have fin : ∀ (st : AS) (ψ : Nat → Value) (a' : Act) (w' : World), Sim P w.heap.size M xf.n st ψ ⟨w, []⟩ a' w' → finish xf.res e.many e.fresh e.r (e.F x) st → a'.defers = [] ∧ ∃ v, (results fn a'.tmps).run P w' = .ok v w' ∧ ∃ v', Ending.returned v = .returned v' ∧ Below w.heap.size w w' ∧ (match e.fresh with
          | some t => Fresh P w.heap.size w' M t e.r (e.F x) v'
          | none => RdRes P e.many e.r w' M (e.F x) v') := by
        intro st ψ a' w' s hfin
        unfold finish at hfin
        split at hfin
        · exact hfin.elim
        · rename_i avs havs
          obtain ⟨vs', hrun, hav⟩ := results_run s hres havs
          have hlv : vs'.length = xf.res.length := by rw [hav.len, resAll_len havs]
          refine ⟨s.defers, _, hrun, _, rfl, s.bel, ?_⟩
          have lessM : Later w' (Mu M (look st.hp) ψ) w' M := ⟨Nat.le_refl _, fun _ _ _ => rfl, fun b _ h => .inl h, fun b h => Nat.lt_of_lt_of_le (s.hok.mb b h) s.hok.bz⟩
          cases hf : e.fresh with
          | some eid =>
            rw [hf] at hfin
            simp only at hfin ⊢
            split at hfin
            · rename_i av
              obtain ⟨v, rfl, hq⟩ := avr1 hav
              simp only [List.size_toArray, List.length_singleton, dite_true]
              simp only [List.getElem_toArray, List.getElem_cons_zero]
              exact freshIs_ok s.hok hfin hq
            · exact hfin.elim
          | none =>
            rw [hf] at hfin
            simp only at hfin ⊢
            unfold RdRes
            by_cases hm : e.many = true
            · rw [if_pos hm] at hfin hmany ⊢
              split at hfin
              · rename_i d ls hd
                subst hfin
                have hne : ¬ vs'.toArray.size = 1 := by
                  simp only [bne_iff_ne] at hmany
                  simpa [hlv] using hmany
                rw [dif_neg hne]
                exact ⟨vs'.toArray, rfl, by simpa using rdcap_many s.hok hd hav⟩
              · exact hfin.elim
            · rw [if_neg hm] at hfin hmany ⊢
              split at hfin
              · rename_i av
                split at hfin
                · rename_i d ls hd
                  subst hfin
                  obtain ⟨v, rfl, hq⟩ := avr1 hav
                  simp only [List.size_toArray, List.length_singleton, dite_true]
                  simp only [List.getElem_toArray, List.getElem_cons_zero]
                  have := rd_ok s.hok (fun _ _ h => h) hd hq (ls' := ls) (fun _ h => h)
                  exact this.later ⟨Nat.le_refl _, fun _ _ _ => rfl, fun b _ h => .inl h, lessM.bound⟩
                · exact hfin.elim
              · exact hfin.elim
      intro ex a' w' q
      cases ex with
      | normal => obtain ⟨st, ψ, q1, q2⟩ := q; exact fin st ψ a' w' q1 q2
      | ret => obtain ⟨st, ψ, q1, q2⟩ := q; exact fin st ψ a' w' q1 q2
      | exit i => obtain ⟨st, ψ, q1, q2⟩ := q; exact q2.elim
      | _ => exact q.elim
    · cases hchk
  · cases hchk
end
end T
end Go.Proofs.Ytcjgofcfinbpeaa
