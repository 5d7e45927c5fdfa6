/- Typed abstract walk, part 21: blocks that may turn are given names, and names are taken back. -/
import Derived.Test.YtcjgofcfinbpeaaT20
namespace Go.Proofs.Ytcjgofcfinbpeaa
set_option linter.unusedVariables false
set_option linter.unusedSimpArgs false
open Go.RowKit
namespace T
section
variable {P : Program} {B : Nat} {M M' : Nat → Prop} {hp hp' : Hp} {ψ ψ' : Nat → Value} {w : World} {n : Nat} {st : AS} {w0 : Fix} {a : Act}
theorem OBR.move {Mw Mw' : Nat → Prop} {fr l : Nat} {ob : OB} (h : OBR P B hp ψ w Mw l ob) (hl : Later w Mw w Mw') (hψ : ∀ l, l ≠ fr → ψ' l = ψ l) (hk : ∀ l ob', l ≠ fr → hp' l = some ob' → ∃ ob, hp l = some ob ∧ ob.like ob') (hlf : l ≠ fr) (hf : fr ∉ ob.locs) : OBR P B hp' ψ' w Mw' l ob := by
  cases ob with
  | box T cs =>
    obtain ⟨b, cells, e, hB, hg, q, q1⟩ := h
    exact ⟨b, cells, by rw [hψ l hlf]; exact e, hB, hg, AVRs.later hl hψ hk hf q, q1⟩
  | row e ty xs =>
    obtain ⟨cells, h1, h2⟩ := h
    exact ⟨cells, by rw [hψ l hlf]; exact h1, h2.mono fun x _ c q => q.later hl⟩
  | mp k ty xs =>
    obtain ⟨b, es, clock, e, q⟩ := h
    exact ⟨b, es, clock, by rw [hψ l hlf]; exact e, q⟩
  | lp bs r =>
    obtain ⟨b, e, q⟩ := h
    exact ⟨b, by rw [hψ l hlf]; exact e, q⟩
/-- The same facts, for fewer blocks that may turn, and other names. -/
theorem Sim.move (s : Sim P B M n st ψ w0 a w) {h2 : List (Nat × OB)} {nx' fr : Nat} (hfr : fr = st.nx) (hnx : st.nx ≤ nx') (hsub : ∀ b, Mu M' (look h2) ψ' b → Mu M (look st.hp) ψ b) (hψ : ∀ l, l ≠ fr → ψ' l = ψ l) (hk : ∀ l ob', l ≠ fr → look h2 l = some ob' → look st.hp l = some ob')
    (hfo : ∀ ob, look h2 fr = some ob → fr < nx' ∧ (∀ k ∈ ob.locs, k < nx') ∧ OBR P B (look h2) ψ' w (Mu M' (look h2) ψ') fr ob) (hdj : ∀ l ob b, l ≠ fr → look st.hp l = some ob → look h2 l = some ob → blk (ψ l) = some b → ∀ ob', look h2 fr = some ob' → blk (ψ' fr) ≠ some b)
    (hmb : ∀ b, M' b → b < w.heap.size) (hmd : ∀ l ob b, look h2 l = some ob → blk (ψ' l) = some b → ¬ M' b) : Sim P B M' n ⟨st.tm, h2, nx', st.kv⟩ ψ' ⟨w, w0.vs, w0.dm, w0.ms⟩ a w := by
  subst hfr
  have hbd : ∀ b, Mu M' (look h2) ψ' b → b < w.heap.size := fun b q => s.hok.mu b (hsub b q)
  have hl : Later w (Mu M (look st.hp) ψ) w (Mu M' (look h2) ψ') := ⟨Nat.le_refl _, fun _ _ _ => rfl, fun b _ q => hsub b q, hbd⟩
  have hk' : ∀ l ob', l ≠ st.nx → look h2 l = some ob' → ∃ ob, look st.hp l = some ob ∧ ob.like ob' := fun l ob' h1 h2 => ⟨ob', hk l ob' h1 h2, like_refl _⟩
  have hfresh : ∀ l ob, look st.hp l = some ob → st.nx ∉ ob.locs := fun l ob q hm => Nat.lt_irrefl _ ((s.hlt l ob q).2 _ hm)
  have av : ∀ {av : AV} {v : Value}, st.nx ∉ av.locs → AVR P (look st.hp) ψ w (Mu M (look st.hp) ψ) av v → AVR P (look h2) ψ' w (Mu M' (look h2) ψ') av v := fun hf q => AVR.later hl hψ hk' hf q
  refine ⟨⟨fun l ob q => ?_, fun l l' ob ob' b q1 q2 q3 q4 => ?_, hmb, hmd, s.hok.bz⟩, fun t => av (fun hm => Nat.lt_irrefl _ (s.lt t _ hm)) (s.av t), s.size, ⟨s.defers.1, s.defers.2.map fun u q => av (by simp [AV.locs]) q⟩, fun t l q => Nat.lt_of_lt_of_le (s.lt t l q) hnx, fun l ob q => ?_, Stay.refl⟩
  · by_cases e : l = st.nx
    · subst e; exact (hfo ob q).2.2
    · have q0 := hk l ob e q
      exact (s.hok.ob l ob q0).move hl hψ hk' e (hfresh l ob q0)
  · by_cases e : l = st.nx
    · by_cases e' : l' = st.nx
      · rw [e, e']
      · exfalso
        subst e
        rw [hψ l' e'] at q4
        exact hdj l' ob' b e' (hk l' ob' e' q2) q2 q4 ob q1 q3
    · by_cases e' : l' = st.nx
      · exfalso
        subst e'
        rw [hψ l e] at q3
        exact hdj l ob b e (hk l ob e q1) q1 q3 ob' q2 q4
      · rw [hψ l e] at q3
        rw [hψ l' e'] at q4
        exact s.hok.dj l l' ob ob' b (hk l ob e q1) (hk l' ob' e' q2) q3 q4
  · by_cases e : l = st.nx
    · subst e; exact ⟨(hfo ob q).1, (hfo ob q).2.1⟩
    · have := s.hlt l ob (hk l ob e q)
      exact ⟨Nat.lt_of_lt_of_le this.1 hnx, fun k hk => Nat.lt_of_lt_of_le (this.2 k hk) hnx⟩
theorem look_cons {l : Nat} {ob : OB} {h : List (Nat × OB)} : look ((l, ob) :: h) = putHp (look h) l ob := by
  funext x
  simp only [look, putHp]
/-- A block that may turn gets a name. -/
theorem Sim.adopt (s : Sim P B M n st ψ w0 a w) {ob : OB} {u : Value} (hu : ∀ b, blk u = some b → M b ∧ B ≤ b) (hlocs : ∀ k ∈ ob.locs, k < st.nx + 1)
    (hob : OBR P B (putHp (look st.hp) st.nx ob) (upd' ψ st.nx u) w (Mu M (look st.hp) ψ) st.nx ob) : Sim P B (fun x => M x ∧ blk u ≠ some x) n ⟨st.tm, (st.nx, ob) :: st.hp, st.nx + 1, st.kv⟩ (upd' ψ st.nx u) ⟨w, w0.vs, w0.dm, w0.ms⟩ a w := by
  have hnew : look st.hp st.nx = none := (sim_ctx s).new
  have hmu : Mu (fun x => M x ∧ blk u ≠ some x) (look ((st.nx, ob) :: st.hp)) (upd' ψ st.nx u) = Mu M (look st.hp) ψ := by
    funext x
    apply propext
    rw [look_cons]
    constructor
    · rintro (q | ⟨l, ob', h1, h2⟩)
      · exact .inl q.1
      · by_cases e : l = st.nx
        · subst e; rw [upd'_same] at h2; exact .inl (hu x h2).1
        · rw [putHp_other _ _ e] at h1; rw [upd'_other _ _ e] at h2; exact .inr ⟨l, ob', h1, h2⟩
    · rintro (q | ⟨l, ob', h1, h2⟩)
      · by_cases c : blk u = some x
        · exact .inr ⟨st.nx, ob, by simp, by rw [upd'_same]; exact c⟩
        · exact .inl ⟨q, c⟩
      · have e : l ≠ st.nx := fun e => by rw [e, hnew] at h1; cases h1
        exact .inr ⟨l, ob', by rw [putHp_other _ _ e]; exact h1, by rw [upd'_other _ _ e]; exact h2⟩
  refine s.move rfl (Nat.le_succ _) (fun b q => by rw [hmu] at q; exact q) (fun l e => upd'_other _ _ e) (fun l ob' e q => by rw [look_cons, putHp_other _ _ e] at q; exact q) (fun ob' q => ?_) (fun l ob' b e h1 _ h3 ob2 _ h4 => ?_) (fun b q => s.hok.mb b q.1) (fun l ob' b q1 q2 q3 => ?_)
  · rw [look_cons, putHp_same] at q
    injection q with q; subst q
    refine ⟨Nat.lt_succ_self _, hlocs, ?_⟩
    rw [hmu, look_cons]; exact hob
  · rw [upd'_same] at h4
    exact s.hok.md l ob' b h1 h3 (hu b h4).1
  · by_cases e : l = st.nx
    · subst e; rw [upd'_same] at q2; exact q3.2 q2
    · rw [look_cons, putHp_other _ _ e] at q1
      rw [upd'_other _ _ e] at q2
      exact s.hok.md l ob' b q1 q2 q3.1
/-- A name is taken back: its block is one that may turn. -/
theorem Sim.release (s : Sim P B M n st ψ w0 a w) {l : Nat} {ob : OB} (hl : look st.hp l = some ob) : Sim P B (fun x => M x ∨ blk (ψ l) = some x) n ⟨st.tm, killL st.hp [l], st.nx, st.kv⟩ ψ ⟨w, w0.vs, w0.dm, w0.ms⟩ a w := by
  have hnew : look st.hp st.nx = none := (sim_ctx s).new
  have hin : ∀ l' ob', look (killL st.hp [l]) l' = some ob' → l' ≠ l ∧ look st.hp l' = some ob' := fun l' ob' q => by
    rw [look_kill] at q
    obtain ⟨h1, h2⟩ := kill_some q
    exact ⟨fun e => h1 (by simp [e]), h2⟩
  refine s.move rfl (Nat.le_refl _) (fun b q => ?_) (fun _ _ => rfl) (fun l' ob' _ q => (hin l' ob' q).2) (fun ob' q => ?_) (fun l' ob' b _ _ _ _ ob2 q _ => ?_) (fun b q => ?_) (fun l' ob' b q1 q2 q3 => ?_)
  · rcases q with (q | q) | ⟨l', ob', h1, h2⟩
    · exact .inl q
    · exact .inr ⟨l, ob, hl, q⟩
    · exact .inr ⟨l', ob', (hin l' ob' h1).2, h2⟩
  · rw [(hin _ _ q).2] at hnew; cases hnew
  · rw [(hin _ _ q).2] at hnew; cases hnew
  · rcases q with q | q
    · exact s.hok.mb b q
    · exact ((s.hok.ob l ob hl).bk q).2
  · obtain ⟨h1, h2⟩ := hin l' ob' q1
    rcases q3 with q3 | q3
    · exact s.hok.md l' ob' b h2 q2 q3
    · exact h1 (s.hok.dj l' l ob' ob b h2 hl q2 q3)
/-- Fewer blocks may turn. -/
theorem Sim.fewer (s : Sim P B M n st ψ w0 a w) (h : ∀ b, M' b → M b) : Sim P B M' n st ψ ⟨w, w0.vs, w0.dm, w0.ms⟩ a w := by
  have hnew : look st.hp st.nx = none := (sim_ctx s).new
  exact s.move (h2 := st.hp) (nx' := st.nx) rfl (Nat.le_refl _) (fun b q => by
    rcases q with q | q
    · exact .inl (h b q)
    · exact .inr q) (fun _ _ => rfl) (fun _ _ _ q => q) (fun ob q => by rw [hnew] at q; cases q) (fun _ _ _ _ _ _ _ ob q => by rw [hnew] at q; cases q) (fun b q => s.hok.mb b (h b q)) (fun l ob b q1 q2 q3 => s.hok.md l ob b q1 q2 (h b q3))
/-- The walk's start, moved back. -/
theorem Sim.base {w1 : World} (s : Sim P B M n st ψ ⟨w1, w0.vs, w0.dm, w0.ms⟩ a w) (h : Stay B M w0.w w1) : Sim P B M n st ψ w0 a w := ⟨s.hok, s.av, s.size, s.defers, s.lt, s.hlt, h.trans s.bel⟩
/-- More is known of a slot. -/
theorem Sim.slot (s : Sim P B M n st ψ w0 a w) {t : Nat} {av : AV} (h : AVR P (look st.hp) ψ w (Mu M (look st.hp) ψ) av (sval w0 n a t)) (hl : ∀ l ∈ av.locs, l < st.nx) : Sim P B M n ⟨(t, av) :: st.tm, st.hp, st.nx, st.kv⟩ ψ w0 a w := by
  refine ⟨s.hok, fun t' => ?_, s.size, s.defers, fun t' l q => ?_, s.hlt, s.bel⟩
  · show AVR P _ ψ w _ (if t' = t then av else tmG st.tm t') _
    split
    · rename_i e; subst e; exact h
    · exact s.av t'
  · have q' : l ∈ (if t' = t then av else tmG st.tm t').locs := q
    split at q'
    · exact hl l q'
    · exact s.lt t' l q'
/-- Some slots alone are kept in mind. -/
theorem Sim.only (s : Sim P B M n st ψ w0 a w) (ks : List Nat) : Sim P B M n ⟨ks.map fun k => (k, tmG st.tm k), st.hp, st.nx, st.kv⟩ ψ w0 a w := by
  refine ⟨s.hok, fun t => ?_, s.size, s.defers, fun t l q => ?_, s.hlt, s.bel⟩
  · show AVR P _ ψ w _ (tmG (ks.map fun k => (k, tmG st.tm k)) t) _
    rw [tmG_map (fun k => tmG st.tm k)]
    split
    · exact s.av t
    · exact trivial
  · have q' : l ∈ (tmG (ks.map fun k => (k, tmG st.tm k)) t).locs := q
    rw [tmG_map (fun k => tmG st.tm k)] at q'
    split at q'
    · exact s.lt t l q'
    · cases q'
/-- An own slice that nothing writes any more is data. -/
theorem XW_frz {P : Program} {C : List Ent} {n : Nat} {c : XC} {Q : XQ} {st : AS} (z l : Nat) {e : TypeId} {t : Ty} {xs : List t.den} (h1 : tmG st.tm z = .own l) (h2 : look st.hp l = some (.row e t xs))
    (h : XW P C n c Q ⟨(z, .val (.sl t) xs) :: st.tm, killL st.hp [l], st.nx, st.kv⟩) : XW P C n c Q st := by
  intro code hc hC B M w0 ψ a w s ro hR
  have s3 : Sim P B M n ⟨st.tm, killL st.hp [l], st.nx, st.kv⟩ ψ w0 a w := Sim.base (w1 := w) ((s.release h2).fewer (M' := M) (fun b h => .inl h)) s.bel
  refine h code hc hC B M w0 ψ a w (s3.slot (t := z) (av := .val (.sl t) xs) ?_ (fun l q => absurd q (by simp [AV.locs]))) ro hR
  have hv := s.av z
  rw [h1] at hv
  have e1 : sval w0 n a z = ψ l := hv _ h2
  rw [e1]
  show RdV P (.sl t) w (Mu M (look (killL st.hp [l])) ψ) xs (ψ l)
  rw [look_kill]
  exact rd_own s.hok h2 (by simp)
end
end T
end Go.Proofs.Ytcjgofcfinbpeaa
