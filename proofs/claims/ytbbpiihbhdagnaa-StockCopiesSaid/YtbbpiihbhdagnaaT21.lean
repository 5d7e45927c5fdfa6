/- Typed abstract walk, part 21: blocks that may turn are given names, and names are taken back. -/
import Derived.Test.YtbbpiihbhdagnaaT20
namespace Go.Proofs.Ytbbpiihbhdagnaa
set_option linter.unusedVariables false
set_option linter.unusedSimpArgs false
open Go.RowKit
namespace T
section
variable {P : Program} {B : Nat} {M M' : Nat → Prop} {hp hp' : Hp} {ψ ψ' : Nat → Value} {w : World} {n : Nat} {st : AS} {w0 : Fix} {a : Act}
theorem OBR.move {Mw Mw' : Nat → Prop} {fr l : Nat} {ob : OB} (h : OBR P B hp ψ w Mw l ob) (hl : Later w Mw w Mw') (hψ : ∀ l, l ≠ fr → ψ' l = ψ l) (hk : ∀ l ob', l ≠ fr → hp' l = some ob' → ∃ ob, hp l = some ob ∧ ob.like ob') (hlf : l ≠ fr) (hf : fr ∉ ob.locs) : OBR P B hp' ψ' w Mw' l ob := by
  cases ob with
  | box T cs =>
    obtain ⟨b, cells, e, hB, hg, q, q1⟩ := h
    exact ⟨b, cells, by rw [hψ l hlf]; exact e, hB, hg, AVRs.later hl hψ hk hf q, q1⟩
  | row e ty xs =>
    obtain ⟨cells, h1, h2⟩ := h
    exact ⟨cells, by rw [hψ l hlf]; exact h1, h2.mono fun x _ c q => q.later hl⟩
  | mp k ty xs =>
    obtain ⟨b, es, clock, e, q⟩ := h
    exact ⟨b, es, clock, by rw [hψ l hlf]; exact e, q⟩
  | lp bs r =>
    obtain ⟨b, e, q⟩ := h
    exact ⟨b, by rw [hψ l hlf]; exact e, q⟩
  | it k ty left cur =>
    obtain ⟨b, e, hB, q⟩ := h
    exact ⟨b, by rw [hψ l hlf]; exact e, hB, q.later hl rfl⟩
/-- The same facts, for fewer blocks that may turn, and other names. -/
theorem Sim.move (s : Sim P B M n st ψ w0 a w) {h2 : List (Nat × OB)} {nx' fr : Nat} (hfr : fr = st.nx) (hnx : st.nx ≤ nx') (hsub : ∀ b, Mu M' (look h2) ψ' b → Mu M (look st.hp) ψ b) (hψ : ∀ l, l ≠ fr → ψ' l = ψ l) (hk : ∀ l ob', l ≠ fr → look h2 l = some ob' → look st.hp l = some ob')
    (hfo : ∀ ob, look h2 fr = some ob → fr < nx' ∧ (∀ k ∈ ob.locs, k < nx') ∧ OBR P B (look h2) ψ' w (Mu M' (look h2) ψ') fr ob) (hdj : ∀ l ob b, l ≠ fr → look st.hp l = some ob → look h2 l = some ob → blk (ψ l) = some b → ∀ ob', look h2 fr = some ob' → blk (ψ' fr) ≠ some b)
    (hmb : ∀ b, M' b → b < w.heap.size) (hmd : ∀ l ob b, look h2 l = some ob → blk (ψ' l) = some b → ¬ M' b) : Sim P B M' n ⟨st.tm, h2, nx', st.kv⟩ ψ' ⟨w, w0.vs, w0.dm, w0.ms⟩ a w := by
  subst hfr
  have hbd : ∀ b, Mu M' (look h2) ψ' b → b < w.heap.size := fun b q => s.hok.mu b (hsub b q)
  have hl : Later w (Mu M (look st.hp) ψ) w (Mu M' (look h2) ψ') := ⟨Nat.le_refl _, fun _ _ _ => rfl, fun b _ q => hsub b q, hbd⟩
  have hk' : ∀ l ob', l ≠ st.nx → look h2 l = some ob' → ∃ ob, look st.hp l = some ob ∧ ob.like ob' := fun l ob' h1 h2 => ⟨ob', hk l ob' h1 h2, like_refl _⟩
  have hfresh : ∀ l ob, look st.hp l = some ob → st.nx ∉ ob.locs := fun l ob q hm => Nat.lt_irrefl _ ((s.hlt l ob q).2 _ hm)
  have av : ∀ {av : AV} {v : Value}, st.nx ∉ av.locs → AVR P (look st.hp) ψ w (Mu M (look st.hp) ψ) av v → AVR P (look h2) ψ' w (Mu M' (look h2) ψ') av v := fun hf q => AVR.later hl hψ hk' hf q
  refine ⟨⟨fun l ob q => ?_, fun l l' ob ob' b q1 q2 q3 q4 => ?_, hmb, hmd, s.hok.bz⟩, fun t => av (fun hm => Nat.lt_irrefl _ (s.lt t _ hm)) (s.av t), s.size, ⟨s.defers.1, s.defers.2.map fun u q => av (by simp [AV.locs]) q⟩, fun t l q => Nat.lt_of_lt_of_le (s.lt t l q) hnx, fun l ob q => ?_, Stay.refl⟩
  · by_cases e : l = st.nx
    · subst e; exact (hfo ob q).2.2
    · have q0 := hk l ob e q
      exact (s.hok.ob l ob q0).move hl hψ hk' e (hfresh l ob q0)
  · by_cases e : l = st.nx
    · by_cases e' : l' = st.nx
      · rw [e, e']
      · exfalso
        subst e
        rw [hψ l' e'] at q4
        exact hdj l' ob' b e' (hk l' ob' e' q2) q2 q4 ob q1 q3
    · by_cases e' : l' = st.nx
      · exfalso
        subst e'
        rw [hψ l e] at q3
        exact hdj l ob b e (hk l ob e q1) q1 q3 ob' q2 q4
      · rw [hψ l e] at q3
        rw [hψ l' e'] at q4
        exact s.hok.dj l l' ob ob' b (hk l ob e q1) (hk l' ob' e' q2) q3 q4
  · by_cases e : l = st.nx
    · subst e; exact ⟨(hfo ob q).1, (hfo ob q).2.1⟩
    · have := s.hlt l ob (hk l ob e q)
      exact ⟨Nat.lt_of_lt_of_le this.1 hnx, fun k hk => Nat.lt_of_lt_of_le (this.2 k hk) hnx⟩
theorem look_cons {l : Nat} {ob : OB} {h : List (Nat × OB)} : look ((l, ob) :: h) = putHp (look h) l ob := by
  funext x
  simp only [look, putHp]
/-- A block that may turn gets a name. -/
theorem Sim.adopt (s : Sim P B M n st ψ w0 a w) {ob : OB} {u : Value} (hu : ∀ b, blk u = some b → M b ∧ B ≤ b) (hlocs : ∀ k ∈ ob.locs, k < st.nx + 1)
    (hob : OBR P B (putHp (look st.hp) st.nx ob) (upd' ψ st.nx u) w (Mu M (look st.hp) ψ) st.nx ob) : Sim P B (fun x => M x ∧ blk u ≠ some x) n ⟨st.tm, (st.nx, ob) :: st.hp, st.nx + 1, st.kv⟩ (upd' ψ st.nx u) ⟨w, w0.vs, w0.dm, w0.ms⟩ a w := by
  have hnew : look st.hp st.nx = none := (sim_ctx s).new
  have hmu : Mu (fun x => M x ∧ blk u ≠ some x) (look ((st.nx, ob) :: st.hp)) (upd' ψ st.nx u) = Mu M (look st.hp) ψ := by
    funext x
    apply propext
    rw [look_cons]
    constructor
    · rintro (q | ⟨l, ob', h1, h2⟩)
      · exact .inl q.1
      · by_cases e : l = st.nx
        · subst e; rw [upd'_same] at h2; exact .inl (hu x h2).1
        · rw [putHp_other _ _ e] at h1; rw [upd'_other _ _ e] at h2; exact .inr ⟨l, ob', h1, h2⟩
    · rintro (q | ⟨l, ob', h1, h2⟩)
      · by_cases c : blk u = some x
        · exact .inr ⟨st.nx, ob, by simp, by rw [upd'_same]; exact c⟩
        · exact .inl ⟨q, c⟩
      · have e : l ≠ st.nx := fun e => by rw [e, hnew] at h1; cases h1
        exact .inr ⟨l, ob', by rw [putHp_other _ _ e]; exact h1, by rw [upd'_other _ _ e]; exact h2⟩
  refine s.move rfl (Nat.le_succ _) (fun b q => by rw [hmu] at q; exact q) (fun l e => upd'_other _ _ e) (fun l ob' e q => by rw [look_cons, putHp_other _ _ e] at q; exact q) (fun ob' q => ?_) (fun l ob' b e h1 _ h3 ob2 _ h4 => ?_) (fun b q => s.hok.mb b q.1) (fun l ob' b q1 q2 q3 => ?_)
  · rw [look_cons, putHp_same] at q
    injection q with q; subst q
    refine ⟨Nat.lt_succ_self _, hlocs, ?_⟩
    rw [hmu, look_cons]; exact hob
  · rw [upd'_same] at h4
    exact s.hok.md l ob' b h1 h3 (hu b h4).1
  · by_cases e : l = st.nx
    · subst e; rw [upd'_same] at q2; exact q3.2 q2
    · rw [look_cons, putHp_other _ _ e] at q1
      rw [upd'_other _ _ e] at q2
      exact s.hok.md l ob' b q1 q2 q3.1
/-- A name is taken back: its block is one that may turn. -/
theorem Sim.release (s : Sim P B M n st ψ w0 a w) {l : Nat} {ob : OB} (hl : look st.hp l = some ob) : Sim P B (fun x => M x ∨ blk (ψ l) = some x) n ⟨st.tm, killL st.hp [l], st.nx, st.kv⟩ ψ ⟨w, w0.vs, w0.dm, w0.ms⟩ a w := by
  have hnew : look st.hp st.nx = none := (sim_ctx s).new
  have hin : ∀ l' ob', look (killL st.hp [l]) l' = some ob' → l' ≠ l ∧ look st.hp l' = some ob' := fun l' ob' q => by
    rw [look_kill] at q
    obtain ⟨h1, h2⟩ := kill_some q
    exact ⟨fun e => h1 (by simp [e]), h2⟩
  refine s.move rfl (Nat.le_refl _) (fun b q => ?_) (fun _ _ => rfl) (fun l' ob' _ q => (hin l' ob' q).2) (fun ob' q => ?_) (fun l' ob' b _ _ _ _ ob2 q _ => ?_) (fun b q => ?_) (fun l' ob' b q1 q2 q3 => ?_)
  · rcases q with (q | q) | ⟨l', ob', h1, h2⟩
    · exact .inl q
    · exact .inr ⟨l, ob, hl, q⟩
    · exact .inr ⟨l', ob', (hin l' ob' h1).2, h2⟩
  · rw [(hin _ _ q).2] at hnew; cases hnew
  · rw [(hin _ _ q).2] at hnew; cases hnew
  · rcases q with q | q
    · exact s.hok.mb b q
    · exact ((s.hok.ob l ob hl).bk q).2
  · obtain ⟨h1, h2⟩ := hin l' ob' q1
    rcases q3 with q3 | q3
    · exact s.hok.md l' ob' b h2 q2 q3
    · exact h1 (s.hok.dj l' l ob' ob b h2 hl q2 q3)
/-- Fewer blocks may turn. -/
theorem Sim.fewer (s : Sim P B M n st ψ w0 a w) (h : ∀ b, M' b → M b) : Sim P B M' n st ψ ⟨w, w0.vs, w0.dm, w0.ms⟩ a w := by
  have hnew : look st.hp st.nx = none := (sim_ctx s).new
  exact s.move (h2 := st.hp) (nx' := st.nx) rfl (Nat.le_refl _) (fun b q => by
    rcases q with q | q
    · exact .inl (h b q)
    · exact .inr q) (fun _ _ => rfl) (fun _ _ _ q => q) (fun ob q => by rw [hnew] at q; cases q) (fun _ _ _ _ _ _ _ ob q => by rw [hnew] at q; cases q) (fun b q => s.hok.mb b (h b q)) (fun l ob b q1 q2 q3 => s.hok.md l ob b q1 q2 (h b q3))
/-- The walk's start, moved back. -/
theorem Sim.base {w1 : World} (s : Sim P B M n st ψ ⟨w1, w0.vs, w0.dm, w0.ms⟩ a w) (h : Stay B M w0.w w1) : Sim P B M n st ψ w0 a w := ⟨s.hok, s.av, s.size, s.defers, s.lt, s.hlt, h.trans s.bel⟩
/-- More is known of a slot. -/
theorem Sim.slot (s : Sim P B M n st ψ w0 a w) {t : Nat} {av : AV} (h : AVR P (look st.hp) ψ w (Mu M (look st.hp) ψ) av (sval w0 n a t)) (hl : ∀ l ∈ av.locs, l < st.nx) : Sim P B M n ⟨(t, av) :: st.tm, st.hp, st.nx, st.kv⟩ ψ w0 a w := by
  refine ⟨s.hok, fun t' => ?_, s.size, s.defers, fun t' l q => ?_, s.hlt, s.bel⟩
  · show AVR P _ ψ w _ (if t' = t then av else tmG st.tm t') _
    split
    · rename_i e; subst e; exact h
    · exact s.av t'
  · have q' : l ∈ (if t' = t then av else tmG st.tm t').locs := q
    split at q'
    · exact hl l q'
    · exact s.lt t' l q'
/-- Some slots alone are kept in mind. -/
theorem Sim.only (s : Sim P B M n st ψ w0 a w) (ks : List Nat) : Sim P B M n ⟨ks.map fun k => (k, tmG st.tm k), st.hp, st.nx, st.kv⟩ ψ w0 a w := by
  refine ⟨s.hok, fun t => ?_, s.size, s.defers, fun t l q => ?_, s.hlt, s.bel⟩
  · show AVR P _ ψ w _ (tmG (ks.map fun k => (k, tmG st.tm k)) t) _
    rw [tmG_map (fun k => tmG st.tm k)]
    split
    · exact s.av t
    · exact trivial
  · have q' : l ∈ (tmG (ks.map fun k => (k, tmG st.tm k)) t).locs := q
    rw [tmG_map (fun k => tmG st.tm k)] at q'
    split at q'
    · exact s.lt t l q'
    · cases q'
/-- An own slice that nothing writes any more is data. -/
theorem XW_top {P : Program} {C : List Ent} {n : Nat} {c : XC} {Q : XQ} {st : AS} (h : XW P C n c Q st) : XW P C n (.top c) Q st := by
  intro code hc hC B M w0 ψ a w s ro hR
  exact h code (by unfold codeChk at hc; exact hc) hC B M w0 ψ a w s ro (fun q => hR rfl)
theorem AVRs.put {P : Program} {hp : Hp} {ψ : Nat → Value} {w : World} {M : Nat → Prop} {av : AV} {v : Value} : ∀ {avs : List AV} {vs : List Value} {u : Nat}, AVRs P hp ψ w M avs vs → vs[u]? = some v → AVR P hp ψ w M av v → AVRs P hp ψ w M (avs.set u av) vs
  | [], _, _, h, _, _ => h
  | x :: r, _, 0, ⟨v', vs, e, h1, h2⟩, hv, h => by
    subst e
    simp only [List.getElem?_cons_zero, Option.some.injEq] at hv
    subst hv
    exact ⟨_, vs, rfl, h, h2⟩
  | x :: r, _, u + 1, ⟨v', vs, e, h1, h2⟩, hv, h => by
    subst e
    simp only [List.getElem?_cons_succ] at hv
    exact ⟨v', vs, rfl, h1, AVRs.put h2 hv h⟩
theorem locsL_put {av : AV} (ha : av.locs = []) {k : Nat} : ∀ {avs : List AV} {u : Nat}, k ∈ AV.locsL (avs.set u av) → k ∈ AV.locsL avs
  | [], _, h => h
  | x :: r, 0, h => by
    rw [List.set_cons_zero, AV.locsL, ha, List.nil_append] at h
    rw [AV.locsL]; exact List.mem_append_right _ h
  | x :: r, u + 1, h => by
    rw [List.set_cons_succ, AV.locsL] at h
    rw [AV.locsL]
    rcases List.mem_append.1 h with h | h
    · exact List.mem_append_left _ h
    · exact List.mem_append_right _ (locsL_put ha h)
/-- An own slice in an own variable that nothing writes any more is data. -/
theorem XW_frzb {P : Program} {C : List Ent} {n : Nat} {c : XC} {Q : XQ} {st : AS} (m l u : Nat) {T : TypeId} {cs : List AV} {e : TypeId} {t : Ty} {xs : List t.den} (h1 : look st.hp m = some (.box T cs)) (hu : cs[u]? = some (.own l)) (h2 : look st.hp l = some (.row e t xs))
    (h : XW P C n c Q ⟨st.tm, appL ⟨.top, [l], some (m, .box T (cs.set u (.val (.sl t) xs)))⟩ st.hp, st.nx + 1, st.kv⟩) : XW P C n c Q st := by
  intro code hc hC B M w0 ψ a w s ro hR
  have c0 := sim_ctx s
  have hne : m ≠ l := fun q => by subst q; rw [h1] at h2; cases h2
  have hob := s.hok.ob m _ h1
  obtain ⟨b, cells, e1, hB, hg, q, q1⟩ := hob
  obtain ⟨v, hv, hav⟩ := q.at hu
  have hvl : v = ψ l := hav _ h2
  subst hvl
  have hml : kill (look st.hp) [l] m = some (.box T cs) := by unfold kill; rw [if_neg (by simpa using hne)]; exact h1
  have op : OpPost P B M (look st.hp) ψ w st.nx ⟨.top, [l], some (m, .box T (cs.set u (.val (.sl t) xs)))⟩ undef w := by
    refine c0.write (ob := .box T (cs.set u (.val (.sl t) xs))) h1 trivial (by simpa using hne) rfl rfl rfl (Nat.le_refl _) (fun _ _ _ => rfl) (fun hlt => ⟨b, cells, e1, hB, hg, ?_, q1⟩) (fun _ => trivial)
    have hk := put_kind (fr := st.nx) (ks := [l]) h1 (ob := .box T (cs.set u (.val (.sl t) xs))) trivial
    refine AVRs.put (AVRs.later hlt (fun _ _ => rfl) hk (c0.obs m _ h1) q) hv ?_
    show RdV P (.sl t) w _ xs (ψ l)
    have hr := rd_own s.hok h2 (ls := [l]) (by simp)
    refine ⟨hr.1, hr.2.less (fun x hx => ?_) (fun x hx => s.hok.mu x (kill_mu x hx))⟩
    rcases hx with hx | ⟨l', ob', k1, k2⟩
    · exact .inl hx
    · by_cases el : l' = m
      · subst el; exact .inr ⟨l', _, hml, k2⟩
      · rw [putHp_other _ _ el] at k1; exact .inr ⟨l', ob', k1, k2⟩
  obtain ⟨ψ', hs⟩ := s.step (d := none) (v := undef) (A' := fun l => l < st.nx + 1) (Nat.lt_irrefl _) (fun _ e => by cases e) (fun _ h => Nat.lt_succ_of_lt h) (Nat.lt_succ_self _) (fun l' _ e => by injection e with e; injection e with e e'; subst e; exact Nat.lt_succ_of_lt (s.hlt _ _ h1).1) (fun _ h => by simp [AV.locs] at h)
    (fun l' ob' e k hk => by injection e with e; injection e with e e'; subst e'; exact Nat.lt_succ_of_lt ((s.hlt _ _ h1).2 k (locsL_put rfl hk))) op
  refine h code hc hC B M w0 ψ' a w ?_ ro hR
  unfold Sim
  dsimp only
  rw [look_app]
  exact hs
theorem XW_frz {P : Program} {C : List Ent} {n : Nat} {c : XC} {Q : XQ} {st : AS} (z l : Nat) {e : TypeId} {t : Ty} {xs : List t.den} (h1 : tmG st.tm z = .own l) (h2 : look st.hp l = some (.row e t xs))
    (h : XW P C n c Q ⟨(z, .val (.sl t) xs) :: st.tm, killL st.hp [l], st.nx, st.kv⟩) : XW P C n c Q st := by
  intro code hc hC B M w0 ψ a w s ro hR
  have s3 : Sim P B M n ⟨st.tm, killL st.hp [l], st.nx, st.kv⟩ ψ w0 a w := Sim.base (w1 := w) ((s.release h2).fewer (M' := M) (fun b h => .inl h)) s.bel
  refine h code hc hC B M w0 ψ a w (s3.slot (t := z) (av := .val (.sl t) xs) ?_ (fun l q => absurd q (by simp [AV.locs]))) ro hR
  have hv := s.av z
  rw [h1] at hv
  have e1 : sval w0 n a z = ψ l := hv _ h2
  rw [e1]
  show RdV P (.sl t) w (Mu M (look (killL st.hp [l])) ψ) xs (ψ l)
  rw [look_kill]
  exact rd_own s.hok h2 (by simp)
end
section
variable {P : Program} {B : Nat} {n : Nat} {C : List Ent}
/-- What memory holds of a variable (block b1) with an array (block b2) of rows of numbers, each of its own. -/
structure RowsAt (B : Nat) (M M' : Nat → Prop) (w : World) (T1 T0 et : TypeId) (n0 b1 b2 c : Nat) (vs : List Value) (D : List (List Int)) : Prop where
  h1 : w.heap[b1]? = some (.cells #[.slice (some ⟨b2, 0, none⟩) n0 c] T1 (0, 0))
  h2 : w.heap[b2]? = some (.cells vs.toArray T0 (0, 0))
  len : vs.length = n0
  lenD : D.length = n0
  cap : n0 ≤ c ∧ c ≤ maxLen
  o1 : B ≤ b1
  o2 : B ≤ b2
  ne : b1 ≠ b2
  m : ∀ b, M' b ↔ M b ∨ b = b1 ∨ b = b2 ∨ ∃ v ∈ vs, blk v = some b
  m1 : ¬ M b1
  m2 : ¬ M b2
  rm : ∀ v ∈ vs, ∀ b, blk v = some b → ¬ M b ∧ b ≠ b1 ∧ b ≠ b2
  dj : ∀ (u u' : Nat) (v v' : Value) (b : Nat), vs[u]? = some v → vs[u']? = some v' → blk v = some b → blk v' = some b → u = u'
  row : ∀ (u : Nat) (v : Value), vs[u]? = some v → ∃ zs, w.ownsRow B et 1 v (D.getD u []).length zs ∧ RowsBy (fun (x : Int) c => Rd P (.int .i64) w M x c) (D.getD u []) zs
  one : ∀ v ∈ vs, v.oneCell' = true
theorem rd_int {w w' : World} {M M' : Nat → Prop} {x : Int} {c : List Value} (h : Rd P (.int .i64) w M x c) : Rd P (.int .i64) w' M' x c := h
theorem ownsRow_at {w w' : World} {e : TypeId} {s : Nat} {v : Value} {k : Nat} {zs : List Value} (h : w.ownsRow B e s v k zs) (hb : ∀ b, blk v = some b → w'.heap[b]? = w.heap[b]?) : w'.ownsRow B e s v k zs := by
  refine ⟨h.1, ?_⟩
  rcases h.2 with q | ⟨g, cap, cur, q1, q2, q3, q4⟩
  · exact .inl q
  · exact .inr ⟨g, cap, cur, q1, q2, by rw [hb g (by rw [q1]; rfl)]; exact q3, q4⟩
theorem RowsAt.stay {M M' : Nat → Prop} {w w' : World} {T1 T0 et : TypeId} {n0 b1 b2 c : Nat} {vs : List Value} {D : List (List Int)} (r : RowsAt (P := P) B M M' w T1 T0 et n0 b1 b2 c vs D) (h : ∀ b, M' b → w'.heap[b]? = w.heap[b]?) : RowsAt (P := P) B M M' w' T1 T0 et n0 b1 b2 c vs D :=
  { r with
    h1 := by rw [h b1 ((r.m b1).2 (.inr (.inl rfl)))]; exact r.h1
    h2 := by rw [h b2 ((r.m b2).2 (.inr (.inr (.inl rfl))))]; exact r.h2
    row := fun u v hv => by
      obtain ⟨zs, q1, q2⟩ := r.row u v hv
      refine ⟨zs, ownsRow_at q1 fun b hb => h b ((r.m b).2 (.inr (.inr (.inr ⟨v, List.mem_of_getElem? hv, hb⟩)))), q2.mono fun x _ c q => rd_int q⟩ }
/-- The rows as data, when nothing of it may turn any more. -/
theorem RowsAt.data {M M' : Nat → Prop} {Mu : Nat → Prop} {w : World} {T1 T0 et : TypeId} {n0 b1 b2 c : Nat} {vs : List Value} {D : List (List Int)} (r : RowsAt (P := P) B M M' w T1 T0 et n0 b1 b2 c vs D) (hmu : ∀ b, M' b → ¬ M b → ¬ Mu b) : RdV P (.ptr (.sl (.sl (.int .i64)))) w Mu D (.pointer (some ⟨b1, 0, none⟩)) := by
  have n1 : ¬ Mu b1 := hmu b1 ((r.m b1).2 (.inr (.inl rfl))) r.m1
  have n2 : ¬ Mu b2 := hmu b2 ((r.m b2).2 (.inr (.inr (.inl rfl)))) r.m2
  have cell : ∀ {b : Nat} {cs : Array Value} {T : TypeId}, w.heap[b]? = some (.cells cs T (0, 0)) → CellsAt w b 0 cs.toList := by
    intro b cs T hb j v hj
    rw [Nat.zero_add]
    simp only [World.cell?, hb]
    simpa using hj
  have rows : ∀ (us : List Value) (E : List (List Int)), us.length = E.length → (∀ (u : Nat) (v : Value), us[u]? = some v → v ∈ vs ∧ ∃ zs, w.ownsRow B et 1 v (E.getD u []).length zs ∧ RowsBy (fun (x : Int) c => Rd P (.int .i64) w M x c) (E.getD u []) zs) → RowsBy (fun (x : List Int) c => Rd P (.sl (.int .i64)) w Mu x c) E us := by
    intro us
    induction us with
    | nil => intro E hl _; cases E with
      | nil => rfl
      | cons _ _ => cases hl
    | cons v us ih =>
      intro E hl h
      cases E with
      | nil => cases hl
      | cons x E =>
        refine ⟨[v], us, rfl, ?_, ih E (by simpa using hl) fun u v' hv => ?_⟩
        · obtain ⟨hv, zs, q1, q2⟩ := h 0 v rfl
          simp only [List.getD_cons_zero] at q1 q2
          rcases q1.2 with ⟨rfl, q⟩ | ⟨g, cp, cur, rfl, k1, k2, k3, k4, k5, k6⟩
          · exact ⟨none, 0, 0, rfl, q, Nat.le_refl _, Nat.zero_le _, .inl rfl⟩
          · refine ⟨_, _, cp, rfl, rfl, k3, k4, .inr ⟨g, 0, zs, rfl, lt_of_block k2, ?_, ?_, q2.mono fun x _ c q => rd_int q⟩⟩
            · exact hmu g ((r.m g).2 (.inr (.inr (.inr ⟨_, hv, rfl⟩)))) (r.rm _ hv g rfl).1
            · intro j z hj
              refine cell k2 j z ?_
              rw [← k6, List.getElem?_take] at hj
              split at hj
              · exact hj
              · cases hj
        · have := h (u + 1) v' (by simpa using hv)
          simpa using this
  have hb1 := r.h1
  refine ⟨by unfold Ty.shape Ty.isSt; simp, ?_⟩
  exact ⟨b1, 0, [.slice (some ⟨b2, 0, none⟩) n0 c], rfl, lt_of_block r.h1, n1, cell r.h1, some ⟨b2, 0, none⟩, n0, c, rfl, r.lenD, r.cap.1, r.cap.2, .inr ⟨b2, 0, vs, rfl, lt_of_block r.h2, n2, cell r.h2, rows vs D (by rw [r.len, r.lenD]) fun u v hv => ⟨List.mem_of_getElem? hv, r.row u v hv⟩⟩⟩
theorem avrs_set {hp : Hp} {ψ : Nat → Value} {w : World} {M : Nat → Prop} {av : AV} : ∀ (vs : List Value) (u : Nat), (∀ v, vs[u]? = some v → AVR P hp ψ w M av v) → AVRs P hp ψ w M ((vs.map .cst).set u av) vs
  | [], _, _ => rfl
  | v :: vs, 0, h => ⟨v, vs, rfl, h v rfl, by
      have : ∀ us : List Value, AVRs P hp ψ w M (us.map .cst) us := fun us => by
        induction us with
        | nil => rfl
        | cons x r ih => exact ⟨x, r, rfl, rfl, ih⟩
      exact this vs⟩
  | v :: vs, u + 1, h => ⟨v, vs, rfl, rfl, avrs_set vs u fun x hx => h x (by simpa using hx)⟩
theorem set_avrs {hp : Hp} {ψ : Nat → Value} {w : World} {M : Nat → Prop} {av : AV} : ∀ (vs : List Value) (u : Nat) (us : List Value), AVRs P hp ψ w M ((vs.map .cst).set u av) us → us.length = vs.length ∧ (∀ v, us[u]? = some v → AVR P hp ψ w M av v) ∧ ∀ i, i ≠ u → us[i]? = vs[i]?
  | [], u, us, h => by obtain rfl : us = [] := h; exact ⟨rfl, fun v q => by simp at q, fun _ _ => rfl⟩
  | v :: vs, 0, us, h => by
    obtain ⟨x, r, rfl, h1, h2⟩ := h
    have : ∀ (vs us : List Value), AVRs P hp ψ w M (vs.map .cst) us → us = vs := fun vs => by
      induction vs with
      | nil => intro us q; exact q
      | cons y s ih => rintro us ⟨z, t, rfl, q1, q2⟩; rw [ih t q2, show z = y from q1]
    rw [this vs r h2]
    exact ⟨rfl, fun v' q => by simp at q; subst q; exact h1, fun i hi => by
      cases i with
      | zero => exact absurd rfl hi
      | succ i => rfl⟩
  | v :: vs, u + 1, us, h => by
    obtain ⟨x, r, rfl, h1, h2⟩ := h
    obtain ⟨q1, q2, q3⟩ := set_avrs vs u r h2
    have : x = v := h1
    subst this
    exact ⟨by simp [q1], fun v' q => q2 v' (by simpa using q), fun i hi => by
      cases i with
      | zero => rfl
      | succ i => simpa using q3 i (by omega)⟩
theorem tmG_over {d : Nat} {x y : AV} {tm : List (Nat × AV)} : tmG ((d, x) :: (d, y) :: tm) = tmG ((d, x) :: tm) := by
  funext t
  simp only [tmG]
  split <;> rfl
/-- A row is taken out: the variable, the array and the row get names. -/
theorem rows_take {M M' : Nat → Prop} {tm : List (Nat × AV)} {hp : List (Nat × OB)} {N : Nat} {kv : List Nat} {ψ : Nat → Value} {w0 : Fix} {a : Act} {w : World} {T1 T0 et : TypeId} {n0 b1 b2 c d u : Nat} {vs : List Value} {D : List (List Int)}
    (s : Sim P B M' n ⟨(d, .cst (.pointer (some ⟨b1, 0, none⟩))) :: tm, hp, N, kv⟩ ψ w0 a w) (r : RowsAt (P := P) B M M' w T1 T0 et n0 b1 b2 c vs D) (hu : u < n0) :
    ∃ ψ', Sim P B (fun x => ((M' x ∧ blk (vs.getD u undef) ≠ some x) ∧ b2 ≠ x) ∧ b1 ≠ x) n ⟨(d, .ptr (N + 2) 0) :: tm, (N + 2, .box T1 [.arr (N + 1) n0]) :: (N + 1, .box T0 ((vs.map .cst).set u (.own N))) :: (N, .row et (.int .i64) (D.getD u [])) :: hp, N + 3, kv⟩ ψ' ⟨w, w0.vs, w0.dm, w0.ms⟩ a w := by
  have hul : u < vs.length := by rw [r.len]; exact hu
  have eu : vs[u]? = some (vs.getD u undef) := by rw [List.getD_eq_getElem?_getD, List.getElem?_eq_getElem hul]; rfl
  generalize vs.getD u undef = v at eu
  have hv : v ∈ vs := List.mem_of_getElem? eu
  obtain ⟨zs, q1, q2⟩ := r.row u v eu
  have s1 := s.adopt (ob := .row et (.int .i64) (D.getD u [])) (u := v) (fun b hb => ⟨(r.m b).2 (.inr (.inr (.inr ⟨v, hv, hb⟩))), (ownsRow_blk q1 hb).1⟩) (by simp [OB.locs]) ⟨zs, by rw [upd'_same]; exact q1, q2.mono fun x _ c q => rd_int q⟩
  dsimp only at s1
  have s2 := s1.adopt (ob := .box T0 ((vs.map .cst).set u (.own N))) (u := .pointer (some ⟨b2, 0, none⟩)) (fun b hb => by
    simp only [blk, Option.some.injEq] at hb; subst hb
    exact ⟨⟨(r.m b2).2 (.inr (.inr (.inl rfl))), fun e => (r.rm v hv b2 e).2.2 rfl⟩, r.o2⟩) (by
    intro k hk
    simp only [OB.locs] at hk
    obtain ⟨x, hx, hl⟩ := locsL_of hk
    rcases List.mem_or_eq_of_mem_set hx with hx | rfl
    · obtain ⟨y, _, rfl⟩ := List.mem_map.1 hx; cases hl
    · simp only [AV.locs, List.mem_singleton] at hl; rw [hl]; show N < N + 1 + 1; omega) ⟨b2, vs.toArray, upd'_same _ _ _, r.o2, r.h2, by
      refine avrs_set vs u fun x hx ob hob => ?_
      rw [eu] at hx; injection hx with hx; subst hx
      rw [upd'_other _ _ (show N ≠ N + 1 by omega), upd'_same], r.one⟩
  dsimp only at s2
  have s3 := s2.adopt (ob := .box T1 [.arr (N + 1) n0]) (u := .pointer (some ⟨b1, 0, none⟩)) (fun b hb => by
    simp only [blk, Option.some.injEq] at hb; subst hb
    exact ⟨⟨⟨(r.m b1).2 (.inr (.inl rfl)), fun e => (r.rm v hv b1 e).2.1 rfl⟩, fun e => by simp only [blk, Option.some.injEq] at e; exact r.ne e.symm⟩, r.o1⟩) (by
    intro k hk
    simp [OB.locs, AV.locsL, AV.locs] at hk; rw [hk]; show N + 1 < N + 1 + 1 + 1; omega) ⟨b1, #[.slice (some ⟨b2, 0, none⟩) n0 c], upd'_same _ _ _, r.o1, r.h1, by
      refine ⟨_, [], rfl, fun ob hob => ⟨b2, c, ?_, rfl, r.cap⟩, rfl⟩
      show upd' _ (N + 1 + 1) _ (N + 1) = _
      rw [upd'_other _ _ (show N + 1 ≠ N + 1 + 1 by omega), upd'_same], fun x hx => by simp at hx; subst hx; rfl⟩
  dsimp only at s3
  have s4 := s3.slot (t := d) (av := .ptr (N + 2) 0) (fun ob hob => ⟨b1, upd'_same _ _ _, by
    have := s3.av d
    simp only [tmG, if_true] at this
    exact this⟩) (by intro l hl; simp only [AV.locs, List.mem_singleton] at hl; rw [hl]; show N + 2 < N + 1 + 1 + 1; omega)
  refine ⟨upd' (upd' (upd' ψ N v) (N + 1) (.pointer (some ⟨b2, 0, none⟩))) (N + 2) (.pointer (some ⟨b1, 0, none⟩)), ?_⟩
  have e : (fun x => ((M' x ∧ blk v ≠ some x) ∧ b2 ≠ x) ∧ b1 ≠ x) = (fun x => ((M' x ∧ blk v ≠ some x) ∧ blk (.pointer (some ⟨b2, 0, none⟩)) ≠ some x) ∧ blk (.pointer (some ⟨b1, 0, none⟩)) ≠ some x) := by
    funext x; simp [blk]
  rw [e]
  unfold Sim at s4 ⊢
  rw [← tmG_over (y := .cst (.pointer (some ⟨b1, 0, none⟩)))]
  exact s4
/-- The names are given back. -/
theorem rows_give {M M' : Nat → Prop} {s0 : AS} {ψ : Nat → Value} {w0 : Fix} {a : Act} {w' : World} {T1 T0 et : TypeId} {n0 b1 b2 c d u na nb nr : Nat} {vs : List Value} {D : List (List Int)} {ys : List Int}
    (s : Sim P B (fun x => ((M' x ∧ blk (vs.getD u undef) ≠ some x) ∧ b2 ≠ x) ∧ b1 ≠ x) n s0 ψ w0 a w') (r : RowsAt (P := P) B M M' w0.w T1 T0 et n0 b1 b2 c vs D) (hM : ∀ b, M' b → b < w0.w.heap.size) (hu : u < n0)
    (ht : tmG s0.tm d = .ptr nb 0) (hb : look s0.hp nb = some (.box T1 [.arr na n0])) (ha : look s0.hp na = some (.box T0 ((vs.map .cst).set u (.own nr)))) (hr : look s0.hp nr = some (.row et (.int .i64) ys)) (hne : na ≠ nb) :
    ∃ b1' b2' c' vs' M3, Sim P B M3 n ⟨(d, .cst (.pointer (some ⟨b1', 0, none⟩))) :: s0.tm, killL (killL (killL s0.hp [nb]) [na]) [nr], s0.nx, s0.kv⟩ ψ ⟨w', w0.vs, w0.dm, w0.ms⟩ a w' ∧ RowsAt (P := P) B M M3 w' T1 T0 et n0 b1' b2' c' vs' (D.set u ys) := by
  have hrb : nr ≠ nb := fun e => by rw [e, hb] at hr; cases hr
  have hra : nr ≠ na := fun e => by rw [e, ha] at hr; cases hr
  have hul : u < vs.length := by rw [r.len]; exact hu
  have eu : vs[u]? = some (vs.getD u undef) := by rw [List.getD_eq_getElem?_getD, List.getElem?_eq_getElem hul]; rfl
  obtain ⟨b1', cells1, e1, o1, h1, a1, on1⟩ := s.hok.ob nb _ hb
  obtain ⟨x1, y1, ex, a2, a3⟩ := a1
  obtain rfl : y1 = [] := a3
  obtain ⟨b2', c', e2, rfl, hc1, hc2⟩ := a2 _ ha
  obtain ⟨b2x, cells2, e2', o2, h2, a4, on2⟩ := s.hok.ob na _ ha
  rw [e2] at e2'
  simp only [Value.pointer.injEq, Option.some.injEq, Addr.mk.injEq, and_true] at e2'
  subst e2'
  obtain ⟨zs, q1, q2⟩ := s.hok.ob nr _ hr
  obtain ⟨hl, hnew, hold⟩ := set_avrs vs u cells2.toList a4
  have bb1 : blk (ψ nb) = some b1' := by rw [e1]; rfl
  have bb2 : blk (ψ na) = some b2' := by rw [e2]; rfl
  have enu : cells2.toList[u]? = some (ψ nr) := by
    have : u < cells2.toList.length := by rw [hl]; exact hul
    rw [List.getElem?_eq_getElem this]
    exact congrArg some (hnew _ (List.getElem?_eq_getElem this) _ hr)
  have keep : ∀ (i : Nat) (v : Value) (g : Nat), i ≠ u → vs[i]? = some v → blk v = some g → ((M' g ∧ blk (vs.getD u undef) ≠ some g) ∧ b2 ≠ g) ∧ b1 ≠ g := fun i v g hi hv hg => by
    have := r.rm v (List.mem_of_getElem? hv) g hg
    exact ⟨⟨⟨(r.m g).2 (.inr (.inr (.inr ⟨v, List.mem_of_getElem? hv, hg⟩))), fun e => hi (r.dj i u v _ g hv eu hg e)⟩, fun e => this.2.2 e.symm⟩, fun e => this.2.1 e.symm⟩
  have hsub : ∀ b, M b → ((M' b ∧ blk (vs.getD u undef) ≠ some b) ∧ b2 ≠ b) ∧ b1 ≠ b := fun b hb => ⟨⟨⟨(r.m b).2 (.inl hb), fun e => (r.rm _ (List.mem_of_getElem? eu) b e).1 hb⟩, fun e => r.m2 (e ▸ hb)⟩, fun e => r.m1 (e ▸ hb)⟩
  have s1 := s.release hb
  have s2 := s1.release (l := na) (ob := .box T0 ((vs.map .cst).set u (.own nr))) (by rw [look_kill, kill_not (by simpa using hne)]; exact ha)
  have s3 := s2.release (l := nr) (ob := .row et (.int .i64) ys) (by rw [look_kill, kill_not (by simpa using hra), look_kill, kill_not (by simpa using hrb)]; exact hr)
  have s4 := s3.slot (t := d) (av := .cst (.pointer (some ⟨b1', 0, none⟩))) (by
    obtain ⟨b, q3, q4⟩ := (show AVR P _ ψ w' _ (.ptr nb 0) _ from ht ▸ s.av d) _ hb
    rw [e1] at q3
    simp only [Value.pointer.injEq, Option.some.injEq, Addr.mk.injEq, and_true] at q3
    subst q3
    exact q4) (by intro l hl; cases hl)
  refine ⟨b1', b2', c', cells2.toList, _, s4, ?_⟩
  have vold : ∀ (i : Nat) (v : Value), i ≠ u → cells2.toList[i]? = some v → vs[i]? = some v := fun i v hi hv => by rw [← hold i hi]; exact hv
  have hnr : ∀ b, blk (ψ nr) = some b → ¬ (((M' b ∧ blk (vs.getD u undef) ≠ some b) ∧ b2 ≠ b) ∧ b1 ≠ b) := fun b hb => s.hok.md nr _ b hr hb
  refine { h1 := ?_, h2 := by simpa using h2, len := by rw [hl, r.len], lenD := by rw [List.length_set, r.lenD], cap := ⟨hc1, hc2⟩, o1 := o1, o2 := o2, ne := fun e => ?_, m := fun b => ?_, m1 := fun q => s.hok.md nb _ _ hb bb1 (hsub _ q), m2 := fun q => s.hok.md na _ _ ha bb2 (hsub _ q), rm := fun v hv b hb' => ?_, dj := fun i i' v v' b hi hi' q q' => ?_, row := fun i v hi => ?_, one := on2 }
  · have : cells1 = #[.slice (some ⟨b2', 0, none⟩) n0 c'] := by rw [← Array.toArray_toList (xs := cells1), ex]
    rw [← this]; exact h1
  · exact hne (s.hok.dj na nb _ _ b1' ha hb (e ▸ bb2) bb1)
  · constructor
    · rintro (((q | q) | q) | q)
      · rcases (r.m b).1 q.1.1.1 with k | k | k | ⟨v, hv, hg⟩
        · exact .inl k
        · exact absurd k.symm q.2
        · exact absurd k.symm q.1.2
        · obtain ⟨i, hi⟩ := List.mem_iff_getElem?.1 hv
          by_cases e : i = u
          · subst e; rw [eu] at hi; injection hi with hi; subst hi; exact absurd hg q.1.1.2
          · exact .inr (.inr (.inr ⟨v, List.mem_of_getElem? (by rw [hold i e]; exact hi), hg⟩))
      · rw [bb1] at q; injection q with q; exact .inr (.inl q.symm)
      · rw [bb2] at q; injection q with q; exact .inr (.inr (.inl q.symm))
      · exact .inr (.inr (.inr ⟨_, List.mem_of_getElem? enu, q⟩))
    · rintro (q | q | q | ⟨v, hv, hg⟩)
      · exact .inl (.inl (.inl (hsub b q)))
      · exact .inl (.inl (.inr (by rw [bb1, q])))
      · exact .inl (.inr (by rw [bb2, q]))
      · obtain ⟨i, hi⟩ := List.mem_iff_getElem?.1 hv
        by_cases e : i = u
        · subst e; rw [enu] at hi; injection hi with hi; subst hi; exact .inr hg
        · exact .inl (.inl (.inl (keep i v b e (vold i v e hi) hg)))
  · obtain ⟨i, hi⟩ := List.mem_iff_getElem?.1 hv
    by_cases e : i = u
    · subst e; rw [enu] at hi; injection hi with hi; subst hi
      exact ⟨fun q => hnr b hb' (hsub b q), fun e => hrb (s.hok.dj nr nb _ _ b hr hb hb' (e ▸ bb1)), fun e => hra (s.hok.dj nr na _ _ b hr ha hb' (e ▸ bb2))⟩
    · have k := keep i v b e (vold i v e hi) hb'
      exact ⟨(r.rm v (List.mem_of_getElem? (vold i v e hi)) b hb').1, fun e => s.hok.md nb _ _ hb bb1 (e ▸ k), fun e => s.hok.md na _ _ ha bb2 (e ▸ k)⟩
  · by_cases e : i = u
    · by_cases e' : i' = u
      · rw [e, e']
      · subst e; rw [enu] at hi; injection hi with hi; subst hi
        exact absurd (keep i' v' b e' (vold i' v' e' hi') q') (hnr b q)
    · by_cases e' : i' = u
      · subst e'; rw [enu] at hi'; injection hi' with hi'; subst hi'
        exact absurd (keep i v b e (vold i v e hi) q) (hnr b q')
      · exact r.dj i i' v v' b (vold i v e hi) (vold i' v' e' hi') q q'
  · by_cases e : i = u
    · subst e; rw [enu] at hi; injection hi with hi; subst hi
      have : (D.set i ys).getD i [] = ys := by rw [List.getD_eq_getElem?_getD, List.getElem?_set_self (by rw [r.lenD]; exact hu)]; rfl
      rw [this]
      exact ⟨zs, q1, q2.mono fun x _ c q => rd_int q⟩
    · obtain ⟨zs', k1, k2⟩ := r.row i v (vold i v e hi)
      have : (D.set u ys).getD i [] = D.getD i [] := by rw [List.getD_eq_getElem?_getD, List.getElem?_set_ne (Ne.symm e), List.getD_eq_getElem?_getD]
      rw [this]
      refine ⟨zs', ownsRow_at k1 fun g hg => ?_, k2.mono fun x _ c q => rd_int q⟩
      have k := keep i v g e (vold i v e hi) hg
      exact s.bel.stay g k (hM g k.1.1.1)
theorem RowsAt.sub {M M' : Nat → Prop} {w : World} {T1 T0 et : TypeId} {n0 b1 b2 c u : Nat} {vs : List Value} {D : List (List Int)} (r : RowsAt (P := P) B M M' w T1 T0 et n0 b1 b2 c vs D) (hu : u < n0) : ∀ b, M b → ((M' b ∧ blk (vs.getD u undef) ≠ some b) ∧ b2 ≠ b) ∧ b1 ≠ b := fun b hb => by
  have hul : u < vs.length := by rw [r.len]; exact hu
  have eu : vs[u]? = some (vs.getD u undef) := by rw [List.getD_eq_getElem?_getD, List.getElem?_eq_getElem hul]; rfl
  exact ⟨⟨⟨(r.m b).2 (.inl hb), fun e => (r.rm _ (List.mem_of_getElem? eu) b e).1 hb⟩, fun e => r.m2 (e ▸ hb)⟩, fun e => r.m1 (e ▸ hb)⟩
theorem csts_avrs {hp : Hp} {ψ : Nat → Value} {w : World} {M : Nat → Prop} {v : Value} : ∀ (k : Nat) (us : List Value), AVRs P hp ψ w M (List.replicate k (.cst v)) us → us = List.replicate k v
  | 0, us, h => h
  | k + 1, us, h => by
    obtain ⟨x, r, rfl, h1, h2⟩ := h
    rw [csts_avrs k r h2, show x = v from h1]; rfl
theorem rows_start {M : Nat → Prop} {st : AS} {ψ : Nat → Value} {w0 : Fix} {a : Act} {w : World} {T1 T0 : TypeId} (et : TypeId) {n0 d lb lo : Nat} (s : Sim P B M n st ψ w0 a w) (ht : tmG st.tm d = .ptr lb 0) (hb : look st.hp lb = some (.box T1 [.arr lo n0])) (ho : look st.hp lo = some (.box T0 (List.replicate n0 (.cst (.slice none 0 0))))) (hne : lo ≠ lb) :
    ∃ b1 b2 c M', Sim P B M' n ⟨(d, .cst (.pointer (some ⟨b1, 0, none⟩))) :: st.tm, killL (killL st.hp [lb]) [lo], st.nx, st.kv⟩ ψ ⟨w, w0.vs, w0.dm, w0.ms⟩ a w ∧ RowsAt (P := P) B M M' w T1 T0 et n0 b1 b2 c (List.replicate n0 (.slice none 0 0)) (List.replicate n0 []) := by
  obtain ⟨b1, cells1, e1, o1, h1, a1, on1⟩ := s.hok.ob lb _ hb
  obtain ⟨x1, y1, ex, a2, a3⟩ := a1
  obtain rfl : y1 = [] := a3
  obtain ⟨b2, c, e2, rfl, hc1, hc2⟩ := a2 _ ho
  obtain ⟨b2x, cells2, e2', o2, h2, a4, on2⟩ := s.hok.ob lo _ ho
  rw [e2] at e2'
  simp only [Value.pointer.injEq, Option.some.injEq, Addr.mk.injEq, and_true] at e2'
  subst e2'
  have ec := csts_avrs _ _ a4
  have bb1 : blk (ψ lb) = some b1 := by rw [e1]; rfl
  have bb2 : blk (ψ lo) = some b2 := by rw [e2]; rfl
  have s1 := s.release hb
  have s2 := s1.release (l := lo) (by rw [look_kill, kill_not (by simpa using hne)]; exact ho)
  have s3 := s2.slot (t := d) (av := .cst (.pointer (some ⟨b1, 0, none⟩))) (by
    obtain ⟨b, q3, q4⟩ := (show AVR P _ ψ w _ (.ptr lb 0) _ from ht ▸ s.av d) _ hb
    rw [e1] at q3
    simp only [Value.pointer.injEq, Option.some.injEq, Addr.mk.injEq, and_true] at q3
    subst q3
    exact q4) (by intro l hl; cases hl)
  refine ⟨b1, b2, c, _, s3, ?_⟩
  have nb : ∀ v ∈ List.replicate n0 (Value.slice none 0 0), v = .slice none 0 0 := fun v hv => (List.mem_replicate.1 hv).2
  refine { h1 := ?_, h2 := by rw [← ec]; simpa using h2, len := by simp, lenD := by simp, cap := ⟨hc1, hc2⟩, o1 := o1, o2 := o2, ne := fun e => ?_, m := fun b => ?_, m1 := s.hok.md lb _ _ hb bb1, m2 := s.hok.md lo _ _ ho bb2, rm := fun v hv b hb' => ?_, dj := fun i i' v v' b hi hi' q q' => ?_, row := fun i v hi => ?_, one := fun v hv => by rw [nb v hv]; rfl }
  · have : cells1 = #[.slice (some ⟨b2, 0, none⟩) n0 c] := by rw [← Array.toArray_toList (xs := cells1), ex]
    rw [← this]; exact h1
  · exact hne (s.hok.dj lo lb _ _ b1 ho hb (e ▸ bb2) bb1)
  · rw [bb1, bb2]
    constructor
    · rintro ((q | q) | q)
      · exact .inl q
      · injection q with q; exact .inr (.inl q.symm)
      · injection q with q; exact .inr (.inr (.inl q.symm))
    · rintro (q | q | q | ⟨v, hv, hg⟩)
      · exact .inl (.inl q)
      · exact .inl (.inr (by rw [q]))
      · exact .inr (by rw [q])
      · rw [nb v hv] at hg; cases hg
  · rw [nb v hv] at hb'; cases hb'
  · rw [nb v (List.mem_of_getElem? hi)] at q; cases q
  · rw [nb v (List.mem_of_getElem? hi)]
    have hi' := (List.getElem?_eq_some_iff.1 hi).1
    have : (List.replicate n0 ([] : List Int)).getD i [] = [] := by
      rw [List.getD_eq_getElem?_getD, List.getElem?_replicate]; split <;> rfl
    rw [this]
    exact ⟨[], ⟨rfl, .inl ⟨rfl, rfl⟩⟩, rfl⟩
def AS.with (st : AS) (d : Nat) (av : AV) : AS := ⟨(d, av) :: st.tm, st.hp, st.nx, st.kv⟩
/-- A loop in which each round appends to one row of an array of rows; then the rows are data. -/
theorem XW_rows {b : XC} {Q : XQ} {st : AS} (i : Nat) (X : Type) (I : X → AS) (inv done : X → Prop) (μ : X → Nat) (x0 : X) (d lb lo n0 : Nat) (T1 T0 et : TypeId) (D : X → List (List Int)) (sel : X → Nat)
    (ht : tmG st.tm d = .ptr lb 0) (hb : look st.hp lb = some (.box T1 [.arr lo n0])) (ho : look st.hp lo = some (.box T0 (List.replicate n0 (.cst (.slice none 0 0))))) (hne : lo ≠ lb)
    (h0 : ∀ v, AS.le P n ⟨(d, .cst v) :: st.tm, killL (killL st.hp [lb]) [lo], st.nx, st.kv⟩ ((I x0).with d (.cst v))) (hi : inv x0) (hD0 : D x0 = List.replicate n0 [])
    (hdone : ∀ x, inv x → done x → Q (.exit i) ((I x).with d (.val (.ptr (.sl (.sl (.int .i64)))) (D x))) ∧ ∀ v, xwp P C n b (fun e s => e = .exit i ∧ AS.le P n s ((I x).with d (.cst v))) ((I x).with d (.cst v)))
    (hr : ∀ x, inv x → ¬ done x → sel x < n0 ∧ ∀ vs : List Value, vs.length = n0 → xwp P C n b (fun e s => e = .normal ∧ ∃ x' nr ys, μ x' < μ x ∧ inv x' ∧ tmG s.tm d = .ptr ((I x).nx + 2) 0 ∧ look s.hp ((I x).nx + 2) = some (.box T1 [.arr ((I x).nx + 1) n0]) ∧ look s.hp ((I x).nx + 1) = some (.box T0 ((vs.map .cst).set (sel x) (.own nr))) ∧ look s.hp nr = some (.row et (.int .i64) ys) ∧ D x' = (D x).set (sel x) ys ∧
        ∀ v, AS.le P n ⟨(d, .cst v) :: s.tm, killL (killL (killL s.hp [(I x).nx + 2]) [(I x).nx + 1]) [nr], s.nx, s.kv⟩ ((I x').with d (.cst v)))
      ⟨(d, .ptr ((I x).nx + 2) 0) :: (I x).tm, ((I x).nx + 2, .box T1 [.arr ((I x).nx + 1) n0]) :: ((I x).nx + 1, .box T0 ((vs.map .cst).set (sel x) (.own (I x).nx))) :: ((I x).nx, .row et (.int .i64) ((D x).getD (sel x) [])) :: (I x).hp, (I x).nx + 3, (I x).kv⟩) : XW P C n (.loop b) Q st := by
  intro code hc hC B M w0 ψ a w s ro hR
  cases code <;> simp [codeChk] at hc
  obtain ⟨b1, b2, c, M', s1, r1⟩ := rows_start et s ht hb ho hne
  obtain ⟨ψ1, s2⟩ := h0 _ B M' _ ψ a w s1
  refine wpIn_loop_ghost (fun k a w => ∃ x ψ M' b1 b2 c vs, μ x = k ∧ inv x ∧ Stay B M w0.w w ∧ Sim P B M' n ((I x).with d (.cst (.pointer (some ⟨b1, 0, none⟩)))) ψ ⟨w, w0.vs, w0.dm, w0.ms⟩ a w ∧ RowsAt (P := P) B M M' w T1 T0 et n0 b1 b2 c vs (D x)) (μ x0) ⟨x0, ψ1, M', b1, b2, c, _, rfl, hi, s.bel, s2, hD0 ▸ r1⟩ ?_
  rintro k a w ⟨x, ψ, M', b1, b2, c, vs, rfl, hx, hst, s, r⟩
  by_cases hdn : done x
  · obtain ⟨hq, hw⟩ := hdone x hx hdn
    refine wpIn_mono (XW_of (hw _) _ hc hC B M' _ ψ a w s ro hR) fun e a' w' q => ?_
    cases e with
    | normal => obtain ⟨_, _, _, h2, _⟩ := q; cases h2
    | ret => obtain ⟨_, _, _, h2, _⟩ := q; cases h2
    | exit j =>
      obtain ⟨s1, ψ1, h1, h2, h3⟩ := q
      injection h2 with h2; subst h2
      obtain ⟨ψ2, s3⟩ := h3 B M' _ ψ1 a' w' h1
      have r' := r.stay (w' := w') fun b hb => h1.bel.stay b hb (s.hok.mb b hb)
      have s4 := s3.fewer (M' := M) fun b hb => (r.m b).2 (.inl hb)
      have hmu : ∀ b, M' b → ¬ M b → ¬ Mu M (look (I x).hp) ψ2 b := fun b k1 k2 k3 => by
        rcases k3 with k3 | ⟨l, ob, k4, k5⟩
        · exact k2 k3
        · exact s3.hok.md l ob b k4 k5 k1
      have s5 := s4.slot (t := d) (av := .val (.ptr (.sl (.sl (.int .i64)))) (D x)) (by
        have := s3.av d
        simp only [AS.with, tmG, if_true] at this
        have hdt := r'.data hmu
        rw [← this] at hdt
        exact hdt) (by intro l hl; cases hl)
      refine ⟨_, ψ2, Sim.base (w1 := w') (st := (I x).with d (.val (.ptr (.sl (.sl (.int .i64)))) (D x))) ?_ (hst.trans (h1.bel.fewer fun b hb => (r.m b).2 (.inl hb))), hq⟩
      unfold Sim AS.with at s5 ⊢
      rw [tmG_over] at s5
      exact s5
    | _ => exact q.elim
  · obtain ⟨hsel, hw⟩ := hr x hx hdn
    obtain ⟨ψ1, s1⟩ := rows_take s r hsel
    refine wpIn_mono (XW_of (hw vs r.len) _ hc hC B _ _ ψ1 a w s1 ro hR) fun e a' w' q => ?_
    cases e with
    | normal =>
      obtain ⟨s2, ψ2, h1, _, x', nr, ys, k1, k2, k3, k4, k5, k6, k7, k8⟩ := q
      obtain ⟨b1', b2', c', vs', M3, s3, r3⟩ := rows_give (w0 := ⟨w, w0.vs, w0.dm, w0.ms⟩) h1 r (fun b => s.hok.mb b) hsel k3 k4 k5 k6 (by omega)
      obtain ⟨ψ4, s4⟩ := k8 _ B M3 _ ψ2 a' w' s3
      exact ⟨μ x', k1, x', ψ4, M3, b1', b2', c', vs', rfl, k2, hst.trans (h1.bel.fewer (r.sub hsel)), s4, k7 ▸ r3⟩
    | ret => obtain ⟨_, _, _, h2, _⟩ := q; cases h2
    | exit j => obtain ⟨_, _, _, h2, _⟩ := q; cases h2
    | _ => exact q.elim
/-- The same, a count of rounds and the states as the walk prints them. -/
theorem XW_rowsN {b : XC} {Q : XQ} {st : AS} (i N : Nat) (ds ls : List Nat) (live : Nat → List (Nat × AV)) (m d lb lo n0 : Nat) (T1 T0 et : TypeId) (D : Nat → List (List Int)) (sel : Nat → Nat) (nr : Nat) (ys : Nat → List Int)
    (ht : tmG st.tm d = .ptr lb 0) (hb : look st.hp lb = some (.box T1 [.arr lo n0])) (ho : look st.hp lo = some (.box T0 (List.replicate n0 (.cst (.slice none 0 0))))) (hne : lo ≠ lb)
    (h0 : ∀ v, le' ⟨(d, .cst v) :: st.tm, killL (killL st.hp [lb]) [lo], st.nx, st.kv⟩ ((headOf ⟨st.tm, killL (killL st.hp [lb]) [lo], st.nx, st.kv⟩ N ds (live 0) ls []).with d (.cst v))) (hD0 : D 0 = List.replicate n0 [])
    (hq : Q (.exit i) ((headOf ⟨st.tm, killL (killL st.hp [lb]) [lo], st.nx, st.kv⟩ N ds (live m) ls []).with d (.val (.ptr (.sl (.sl (.int .i64)))) (D m))))
    (hx : ∀ v, xwp P C n b (fun e s => e = .exit i ∧ leQ s ((headOf ⟨st.tm, killL (killL st.hp [lb]) [lo], st.nx, st.kv⟩ N ds (live m) ls []).with d (.cst v))) ((headOf ⟨st.tm, killL (killL st.hp [lb]) [lo], st.nx, st.kv⟩ N ds (live m) ls []).with d (.cst v)))
    (hr : ∀ k, k < m → sel k < n0 ∧ D (k + 1) = (D k).set (sel k) (ys k) ∧ ∀ vs : List Value, vs.length = n0 → xwp P C n b (fun e s => e = .normal ∧ tmG s.tm d = .ptr (N + 2) 0 ∧ look s.hp (N + 2) = some (.box T1 [.arr (N + 1) n0]) ∧ look s.hp (N + 1) = some (.box T0 ((vs.map .cst).set (sel k) (.own nr))) ∧ look s.hp nr = some (.row et (.int .i64) (ys k)) ∧
        ∀ v, leQ ⟨(d, .cst v) :: s.tm, killL (killL (killL s.hp [N + 2]) [N + 1]) [nr], s.nx, s.kv⟩ ((headOf ⟨st.tm, killL (killL st.hp [lb]) [lo], st.nx, st.kv⟩ N ds (live (k + 1)) ls []).with d (.cst v)))
      ⟨(d, .ptr (N + 2) 0) :: headT st.tm st.kv ds (live k), (N + 2, .box T1 [.arr (N + 1) n0]) :: (N + 1, .box T0 ((vs.map .cst).set (sel k) (.own N))) :: (N, .row et (.int .i64) ((D k).getD (sel k) [])) :: puts (keep (killL (killL st.hp [lb]) [lo]) ls) [], N + 3, st.kv⟩) : XW P C n (.loop b) Q st := by
  refine XW_rows i Nat (fun k => headOf ⟨st.tm, killL (killL st.hp [lb]) [lo], st.nx, st.kv⟩ N ds (live k) ls []) (fun k => k ≤ m) (fun k => k = m) (fun k => m - k) 0 d lb lo n0 T1 T0 et D sel ht hb ho hne (fun v => le_of (h0 v)) (Nat.zero_le _) hD0 (fun k _ hk => ?_) (fun k hk hkm => ?_)
  · subst hk
    exact ⟨hq, fun v => xwp_mono (fun e s q => ⟨q.1, le_of q.2⟩) (hx v)⟩
  · obtain ⟨h1, h2, h3⟩ := hr k (by omega)
    exact ⟨h1, fun vs hvs => xwp_mono (fun e s q => ⟨q.1, k + 1, nr, ys k, by omega, by omega, q.2.1, q.2.2.1, q.2.2.2.1, q.2.2.2.2.1, h2, fun v => le_of (q.2.2.2.2.2 v)⟩) (h3 vs hvs)⟩
end
end T
end Go.Proofs.Ytbbpiihbhdagnaa
