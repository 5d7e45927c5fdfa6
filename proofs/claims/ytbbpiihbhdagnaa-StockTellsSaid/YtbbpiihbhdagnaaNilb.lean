/- A nil slice in a cell of an own variable becomes an own empty row. -/
import Derived.Test.YtbbpiihbhdagnaaT21
namespace Go.Proofs.Ytbbpiihbhdagnaa
set_option linter.unusedVariables false
set_option linter.unusedSimpArgs false
open Go.RowKit
namespace T
theorem locsL_own {l k : Nat} : ∀ {avs : List AV} {u : Nat}, k ∈ AV.locsL (avs.set u (.own l)) → k ∈ AV.locsL avs ∨ k = l
  | [], _, h => .inl h
  | x :: r, 0, h => by
    rw [List.set_cons_zero, AV.locsL] at h
    rw [AV.locsL]
    rcases List.mem_append.1 h with h | h
    · exact .inr (by simpa [AV.locs] using h)
    · exact .inl (List.mem_append_right _ h)
  | x :: r, u + 1, h => by
    rw [List.set_cons_succ, AV.locsL] at h
    rw [AV.locsL]
    rcases List.mem_append.1 h with h | h
    · exact .inl (List.mem_append_left _ h)
    · rcases locsL_own h with h | h
      · exact .inl (List.mem_append_right _ h)
      · exact .inr h
theorem XW_nilb {P : Program} {C : List Ent} {n : Nat} {c : XC} {Q : XQ} {st : AS} (m u : Nat) (e : TypeId) (t : Ty) {T : TypeId} {cs : List AV} (h1 : look st.hp m = some (.box T cs)) (hu : cs[u]? = some (.cst (.slice none 0 0)))
    (h : XW P C n c Q ⟨st.tm, appL ⟨.top, [], some (m, .box T (cs.set u (.own st.nx)))⟩ ((st.nx, .row e t []) :: st.hp), st.nx + 1 + 1, st.kv⟩) : XW P C n c Q st := by
  intro code hc hC B M w0 ψ a w s ro hR
  have c0 := sim_ctx s
  have hnew := c0.new
  have hM : (fun x => M x ∧ blk (Value.slice none 0 0) ≠ some x) = M := by
    funext x
    simp [blk]
  have s1 := Sim.adopt s (ob := .row e t []) (u := .slice none 0 0) (fun b hb => by simp [blk] at hb) (fun k hk => by simp [OB.locs] at hk)
    ⟨[], by rw [upd'_same]; exact ⟨by simp, .inl ⟨rfl, rfl⟩⟩, rfl⟩
  rw [hM] at s1
  have s1 := Sim.base s1 s.bel
  have c1 := sim_ctx s1
  have hne : m ≠ st.nx := fun q => by rw [q, hnew] at h1; cases h1
  have h1' : look ((st.nx, .row e t []) :: st.hp) m = some (.box T cs) := by rw [look_cons, putHp_other _ _ hne]; exact h1
  have hob := s1.hok.ob m _ h1'
  obtain ⟨b, cells, e1, hB, hg, q, q1⟩ := hob
  obtain ⟨v, hv, hav⟩ := q.at hu
  have hvn : v = .slice none 0 0 := hav
  subst hvn
  have op : OpPost P B M (look ((st.nx, .row e t []) :: st.hp)) (upd' ψ st.nx (.slice none 0 0)) w (st.nx + 1) ⟨.top, [], some (m, .box T (cs.set u (.own st.nx)))⟩ undef w := by
    refine c1.write (ob := .box T (cs.set u (.own st.nx))) h1' trivial (by simp) rfl rfl rfl (Nat.le_refl _) (fun _ _ _ => rfl) (fun hlt => ⟨b, cells, e1, hB, hg, ?_, q1⟩) (fun _ => trivial)
    have hk := put_kind (fr := st.nx + 1) (ks := []) h1' (ob := .box T (cs.set u (.own st.nx))) trivial
    refine AVRs.put (AVRs.later hlt (fun _ _ => rfl) hk (c1.obs m _ h1') q) hv ?_
    intro ob _
    exact (upd'_same _ _ _).symm
  obtain ⟨ψ', hs⟩ := s1.step (d := none) (v := undef) (A' := fun l => l < st.nx + 1 + 1) (Nat.lt_irrefl _) (fun _ e => by cases e) (fun _ h => Nat.lt_succ_of_lt h) (Nat.lt_succ_self _) (fun l' _ e => by injection e with e; injection e with e e'; subst e; exact Nat.lt_succ_of_lt (s1.hlt _ _ h1').1) (fun _ h => by simp [AV.locs] at h)
    (fun l' ob' e k hk => by
      injection e with e
      injection e with e e'
      subst e'
      rcases locsL_own hk with hk | rfl
      · exact Nat.lt_succ_of_lt ((s1.hlt _ _ h1').2 k hk)
      · omega) op
  refine h code hc hC B M w0 ψ' a w ?_ ro hR
  unfold Sim
  dsimp only
  rw [look_app]
  exact hs
end T
end Go.Proofs.Ytbbpiihbhdagnaa
