/- ClockBounds: the walk. -/
import Derived.Test.YtjdjadnmlbmjdaaHours
import Derived.Test.YtjdjadnmlbmjdaaLoose
import Derived.OpenShut
import Derived.Deep.RegionHeld
namespace Go.Proofs.Ytjdjadnmlbmjdaa
open Go.RowKit Go.BigFrame
set_option linter.unusedVariables false
set_option linter.unusedSimpArgs false
namespace Bounds

/-- The two lists of the copy, in blocks of the call's own. -/
def Row (w : World) (base : Nat) (v : Value) (xs : List Int) : Prop := ∃ g c, v = .slice (some ⟨g, 0, none⟩) 24 c ∧ w.ownsRow base 3 1 v 24 (xs.map (Value.int .i64))
def Empty (w : World) (base : Nat) (v : Value) : Prop := ∃ g, v = .slice (some ⟨g, 0, none⟩) 0 0 ∧ w.ownsRow base 3 1 v 0 []
theorem owns_ext {w w' : World} {base : Nat} {e : TypeId} {size : Nat} {v : Value} {n : Nat} {xs : List Value} (h : w.ownsRow base e size v n xs) (he : Ext w w') : w'.ownsRow base e size v n xs := by
  refine ⟨h.1, ?_⟩
  rcases h.2 with hn | ⟨g, cap, cur, rfl, hb, hgg, rest⟩
  · exact .inl hn
  · exact .inr ⟨g, cap, cur, rfl, hb, (he.block g (lt_of_block hgg)).trans hgg, rest⟩

/-- What is claimed of each operation's value. -/
def R (f t : Int) (base : Nat) (L H : List Int) : Nat → World → Value → Prop
  | 4, w, v => Empty w base v
  | 7, w, v => Row w base v L
  | 8, w, v => Empty w base v
  | 11, w, v => Row w base v H
  | 12, w, v => ∃ x y, v = .agg #[.int .i64 f, .int .i64 t, x, y] ∧ Row w base x L ∧ Row w base y H ∧ x.ownBlock ≠ y.ownBlock
  | 13, w, v => ∃ g, v = .pointer (some ⟨g, 0, none⟩) ∧ base ≤ g ∧ w.heap[g]? = some (.cells #[.int .i64 0, .int .i64 0, .slice none 0 0, .slice none 0 0] 24 (0, 0))
  | _, _, _ => False

def F : Nat → Bool
  | 4 => true
  | 7 => true
  | 8 => true
  | 11 => true
  | 13 => true
  | _ => false
theorem row_ext {w w' : World} {base : Nat} {v : Value} {xs : List Int} (h : Row w base v xs) (he : Ext w w') : Row w' base v xs := by
  obtain ⟨g, c, e, o⟩ := h; exact ⟨g, c, e, owns_ext o he⟩
theorem R_mono (f t : Int) (base : Nat) (L H : List Int) : ∀ i w w' v, Ext w w' → R f t base L H i w v → R f t base L H i w' v := by
  intro i w w' v he h
  unfold R at h ⊢
  split at h
  · obtain ⟨g, e, o⟩ := h; exact ⟨g, e, owns_ext o he⟩
  · exact row_ext h he
  · obtain ⟨g, e, o⟩ := h; exact ⟨g, e, owns_ext o he⟩
  · exact row_ext h he
  · obtain ⟨x, y, e, r1, r2, r3⟩ := h; exact ⟨x, y, e, row_ext r1 he, row_ext r2 he, r3⟩
  · obtain ⟨g, e, o, q⟩ := h; exact ⟨g, e, o, (he.block g (lt_of_block q)).trans q⟩
  · exact h
theorem R_lt (f t : Int) (base : Nat) (L H : List Int) : ∀ i w v, F i = true → R f t base L H i w v → ∀ b ∈ Loose.blks v, b < w.heap.size := by
  intro i w v hF h b hb
  have row : ∀ {xs : List Value} {n c g : Nat}, v = .slice (some ⟨g, 0, none⟩) n c → w.ownsRow base 3 1 v n xs → b < w.heap.size := by
    rintro xs n c g rfl o
    simp [Loose.blks, Loose.partBlk, Loose.cellBlk] at hb
    subst hb
    exact (o.lt _ rfl).2
  unfold R at h
  split at h
  · obtain ⟨g, e, o⟩ := h; exact row e o
  · obtain ⟨g, c, e, o⟩ := h; exact row e o
  · obtain ⟨g, e, o⟩ := h; exact row e o
  · obtain ⟨g, c, e, o⟩ := h; exact row e o
  · simp [F] at hF
  · obtain ⟨g, rfl, o, q⟩ := h
    simp [Loose.blks, Loose.partBlk, Loose.cellBlk] at hb
    subst hb
    exact lt_of_block q
  · cases h
theorem tail_facts {w w2 : World} {B q g g' c1 c1' : Nat} {cs : Array Value} {a : Arc} (S : InBox w B cs a w2) (hq : w.heap.size < q ∧ B ≠ q)
    (h : w2.heap[q]? = some (.cells #[.int .i64 0, .int .i64 0, .slice none 0 0, .slice none 0 0] 24 (0, 0)))
    (o1 : w2.ownsRow (w.heap.size + 1) 3 1 (.slice (some ⟨g, 0, none⟩) 24 c1) 24 (a.L.map (Value.int .i64)))
    (o2 : w2.ownsRow (w.heap.size + 1) 3 1 (.slice (some ⟨g', 0, none⟩) 24 c1') 24 (a.H.map (Value.int .i64))) :
    let w3 := (((w2.setCell { block := q, off := 0 } (Value.int IntKind.i64 a.f)).setCell { block := q, off := 1 } (Value.int IntKind.i64 a.t)).setCell { block := q, off := 2 } (Value.slice (some { block := g, off := 0 }) 24 c1)).setCell { block := q, off := 3 } (Value.slice (some { block := g', off := 0 }) 24 c1')
    InBox w B cs a w3 ∧ w3.heap[q]? = some (.cells #[.int .i64 a.f, .int .i64 a.t, .slice (some ⟨g, 0, none⟩) 24 c1, .slice (some ⟨g', 0, none⟩) 24 c1'] 24 (0, 0)) ∧
    w3.ownsRow (w.heap.size + 1) 3 1 (.slice (some ⟨g, 0, none⟩) 24 c1) 24 (a.L.map (Value.int .i64)) ∧
    w3.ownsRow (w.heap.size + 1) 3 1 (.slice (some ⟨g', 0, none⟩) 24 c1') 24 (a.H.map (Value.int .i64)) := by
  have far : ∀ {gg cc : Nat} {xs : List Value}, w2.ownsRow (w.heap.size + 1) 3 1 (.slice (some ⟨gg, 0, none⟩) 24 cc) 24 xs → Value.ownBlock (.slice (some ⟨gg, 0, none⟩) 24 cc) ≠ some q := by
    intro gg cc xs o he
    simp [Value.ownBlock] at he
    subst he
    rcases o.2 with ⟨e, _⟩ | ⟨g2, cap, cur, e, _, hg, _⟩
    · cases e
    · injection e with e; injection e with e; injection e with e
      subst e
      rw [h] at hg
      simp at hg
  have n1 := far o1
  have n2 := far o2
  obtain ⟨h1, h2⟩ := hq
  refine ⟨?_, ?_, ?_, ?_⟩
  · exact ((((Box.store S (by omega) h2 _).store (by omega) h2 _).store (by omega) h2 _).store (by omega) h2 _)
  · simpa using setCell_heap (j := 3) (v := Value.slice (some { block := g', off := 0 }) 24 c1') (setCell_heap (j := 2) (v := Value.slice (some { block := g, off := 0 }) 24 c1) (setCell_heap (j := 1) (v := .int .i64 a.t) (setCell_heap (j := 0) (v := .int .i64 a.f) h)))
  · exact ownsRow_setCell_other (ownsRow_setCell_other (ownsRow_setCell_other (ownsRow_setCell_other o1 n1 _) n1 _) n1 _) n1 _
  · exact ownsRow_setCell_other (ownsRow_setCell_other (ownsRow_setCell_other (ownsRow_setCell_other o2 n2 _) n2 _) n2 _) n2 _

set_option maxRecDepth 100000 in
set_option maxHeartbeats 1600000 in
theorem bounds_walk {w : World} {v : Value} {a : Arc} (ha : IsArc w v a) (x : Int) (hx : (Lit.int .u8 x).wf = true) (t : Int) (_ : (Lit.int .i64 t).wf = true) (y : Int) (_ : (Lit.int .i64 y).wf = true) :
    Calls Try.prog 6 #[v, .int .u8 x, .int .i64 t, .int .i64 y] w fun e w' => e = .returned (.bool true) ∧ Below w.heap.size w w' := by
  obtain ⟨A, n, c, A', n', c', rfl, k⟩ := id ha
  have S := Box.first ha
  have hc := S.cells
  obtain ⟨x0, x1⟩ := bounds_u8 hx
  clear hx
  cases hf : a.few
  · clear k
    go_enter Try.func6, Try.ntmps6
    go_wp2_with (first | (go_at_call 8; refine (Busy.small_any _).mono ?_; rintro e w' ⟨rfl, hw⟩; replace S := S.next hw; replace hc := S.cells; clear hw) | (go_at_call 9; refine (Hours.few_any S.arc).mono ?_; rintro e w' ⟨rfl, hw⟩; replace S := S.next hw; replace hc := S.cells; clear hw))
    go_ret
    exact ⟨rfl, S.below⟩
  cases hr : a.rightB
  · clear k
    go_enter Try.func6, Try.ntmps6
    go_wp2_with (first | (go_at_call 8; refine (Busy.small_any _).mono ?_; rintro e w' ⟨rfl, hw⟩; replace S := S.next hw; replace hc := S.cells; clear hw) | (go_at_call 9; refine (Hours.few_any S.arc).mono ?_; rintro e w' ⟨rfl, hw⟩; replace S := S.next hw; replace hc := S.cells; clear hw) | (go_at_call 10; refine (Clock.right_any S.arc).mono ?_; rintro e w' ⟨rfl, hw⟩; replace S := S.next hw; replace hc := S.cells; clear hw))
    go_ret
    exact ⟨rfl, S.below⟩
  have Hr := Lib.hid (show a.right from of_decide_eq_true hr)
  have K := Lib.hid k; clear k
  go_enter Try.func6, Try.ntmps6
  go_wp2_with (first | (go_at_call 8; refine (Busy.small_any _).mono ?_; rintro e w' ⟨rfl, hw⟩; replace S := S.next hw; replace hc := S.cells; clear hw) | (go_at_call 9; refine (Hours.few_any S.arc).mono ?_; rintro e w' ⟨rfl, hw⟩; replace S := S.next hw; replace hc := S.cells; clear hw) | (go_at_call 10; refine (Clock.right_any S.arc).mono ?_; rintro e w' ⟨rfl, hw⟩; replace S := S.next hw; replace hc := S.cells; clear hw))
  refine Loose.start (S := InBox w w.heap.size #[.int .i64 a.f, .int .i64 a.t, .slice A n c, .slice A' n' c'] a) (n := 15) (by kernel_rfl) (by kernel_rfl) ?_
  have hS : InBox w w.heap.size #[.int .i64 a.f, .int .i64 a.t, .slice A n c, .slice A' n' c'] a w'.drew := Box.drew S
  apply wpAnyH_take (i := 0); (case hi => rfl); (case hs => kernel_rfl); (case hf => kernel_rfl); (case hr => kernel_rfl); (case hQ => exact fun _ _ _ h => h); (case hS => assumption); (case hy => refine Or.inl ⟨by rfl, ?_⟩; intro w2 S2; have hc2 := Box.cells S2; go_simp; with_reducible rfl); try simp only [List.getElem_toArray, List.getElem_cons_succ, List.getElem_cons_zero, Act.put, List.setIfInBounds_toArray, List.set_cons_zero, List.set_cons_succ]
  apply wpAnyH_take (i := 1); (case hi => rfl); (case hs => kernel_rfl); (case hf => kernel_rfl); (case hr => kernel_rfl); (case hQ => exact fun _ _ _ h => h); (case hS => assumption); (case hy => refine Or.inl ⟨by rfl, ?_⟩; intro w2 S2; have hc2 := Box.cells S2; go_simp; with_reducible rfl); try simp only [List.getElem_toArray, List.getElem_cons_succ, List.getElem_cons_zero, Act.put, List.setIfInBounds_toArray, List.set_cons_zero, List.set_cons_succ]
  apply wpAnyH_take (i := 2); (case hi => rfl); (case hs => kernel_rfl); (case hf => kernel_rfl); (case hr => kernel_rfl); (case hQ => exact fun _ _ _ h => h); (case hS => assumption); (case hy => refine Or.inl ⟨by rfl, ?_⟩; intro w2 S2; have hc2 := Box.cells S2; go_simp; with_reducible rfl); try simp only [List.getElem_toArray, List.getElem_cons_succ, List.getElem_cons_zero, Act.put, List.setIfInBounds_toArray, List.set_cons_zero, List.set_cons_succ]
  apply wpAnyH_take (i := 3); (case hi => rfl); (case hs => kernel_rfl); (case hf => kernel_rfl); (case hr => kernel_rfl); (case hQ => exact fun _ _ _ h => h); (case hS => assumption); (case hy => refine Or.inl ⟨by rfl, ?_⟩; intro w2 S2; have hc2 := Box.cells S2; go_simp; with_reducible rfl); try simp only [List.getElem_toArray, List.getElem_cons_succ, List.getElem_cons_zero, Act.put, List.setIfInBounds_toArray, List.set_cons_zero, List.set_cons_succ]
  apply wpAnyH_take (i := 5); (case hi => rfl); (case hs => kernel_rfl); (case hf => kernel_rfl); (case hr => kernel_rfl); (case hQ => exact fun _ _ _ h => h); (case hS => assumption); (case hy => refine Or.inl ⟨by rfl, ?_⟩; intro w2 S2; have hc2 := Box.cells S2; go_simp; with_reducible rfl); try simp only [List.getElem_toArray, List.getElem_cons_succ, List.getElem_cons_zero, Act.put, List.setIfInBounds_toArray, List.set_cons_zero, List.set_cons_succ]
  apply wpAnyH_take (i := 6); (case hi => rfl); (case hs => kernel_rfl); (case hf => kernel_rfl); (case hr => kernel_rfl); (case hQ => exact fun _ _ _ h => h); (case hS => assumption); (case hy => refine Or.inl ⟨by rfl, ?_⟩; intro w2 S2; have hc2 := Box.cells S2; go_simp; with_reducible rfl); try simp only [List.getElem_toArray, List.getElem_cons_succ, List.getElem_cons_zero, Act.put, List.setIfInBounds_toArray, List.set_cons_zero, List.set_cons_succ]
  apply wpAnyH_take (i := 9); (case hi => rfl); (case hs => kernel_rfl); (case hf => kernel_rfl); (case hr => kernel_rfl); (case hQ => exact fun _ _ _ h => h); (case hS => assumption); (case hy => refine Or.inl ⟨by rfl, ?_⟩; intro w2 S2; have hc2 := Box.cells S2; go_simp; with_reducible rfl); try simp only [List.getElem_toArray, List.getElem_cons_succ, List.getElem_cons_zero, Act.put, List.setIfInBounds_toArray, List.set_cons_zero, List.set_cons_succ]
  apply wpAnyH_take (i := 10); (case hi => rfl); (case hs => kernel_rfl); (case hf => kernel_rfl); (case hr => kernel_rfl); (case hQ => exact fun _ _ _ h => h); (case hS => assumption); (case hy => refine Or.inl ⟨by rfl, ?_⟩; intro w2 S2; have hc2 := Box.cells S2; go_simp; with_reducible rfl); try simp only [List.getElem_toArray, List.getElem_cons_succ, List.getElem_cons_zero, Act.put, List.setIfInBounds_toArray, List.set_cons_zero, List.set_cons_succ]
  obtain ⟨⟨hl, hm, k1⟩, ⟨hl', hm', k1'⟩⟩ := K.out
  have rr := Hr.out
  obtain rfl : n = 24 := by rw [← hl]; exact rr.2.2.1
  obtain rfl : n' = 24 := by rw [← hl']; exact rr.2.2.2.1
  obtain ⟨bL, oL, rfl, hbL, hcL⟩ := k1.resolve_left (by omega)
  obtain ⟨bH, oH, rfl, hbH, hcH⟩ := k1'.resolve_left (by omega)
  obtain ⟨i0, ti, hz0, hz1, hz2⟩ := info_parts infoInt
  have hsz : w.heap.size ≤ w'.drew.heap.size := S.below.size
  refine Loose.held (js := [(4, 26), (7, 29), (8, 30), (11, 33), (12, 34), (13, 10)]) (last := some 14) (R := R a.f a.t (w.heap.size + 1) a.L a.H) F (by kernel_rfl) (R_lt _ _ _ _ _) (R_mono _ _ _ _ _) hS ?_ ?_
  · intro p hp
    simp only [List.mem_cons, List.not_mem_nil, or_false] at hp
    rcases hp with rfl | rfl | rfl | rfl | rfl | rfl
    · refine Loose.Owes.op rfl rfl rfl ?_
      intro a2 w2 e2 S2 hout hpre hap K2 hK
      have HK := Lib.hid hK
      clear hK hout hpre hap hc
      go_simp
      exact HK.out _ _ (below1 _ _) (Box.next S2 (below1 _ _)) ⟨_, rfl, World.ownsRow_made w2 #[] 0 (lt_of_block S2.held) (by unfold maxLen; omega) rfl⟩ (fun _ b hb => by simp [Loose.blks, Loose.partBlk, Loose.cellBlk] at hb; omega)
    · refine Loose.Owes.op rfl rfl rfl ?_
      intro a2 w2 e2 S2 hout hpre hap K2 hK
      have f1 : a2.eval (.tmp 28) = .slice (some ⟨bL, oL, none⟩) 24 c := (hout 28 (by decide)).trans (by kernel_rfl)
      obtain ⟨g, f2, f3⟩ := hpre (4, 26) (by simp) (by kernel_rfl)
      have hb := S2.below
      refine wp_append_copy (.tmp 26) (.tmp 28) 22 rfl (w.heap.size + 1) 3 i0 (.int .i64 0) 8 Try.underlying22 ti hz0 hz1 hz2 rfl g f2 (f2 ▸ f3) bL oL 24 c (a.L.map (Value.int .i64)) f1 (by omega) (by simp [hl]) (ints_cells fun i hi => ?_) ints_one (by omega) (by omega) (lt_of_block S2.held) ?_
      · rw [hb.cell (p := ⟨bL, oL + i, none⟩) hbL]; exact hcL i (by omega)
      · intro c2 w3 o3 b3
        exact hK _ _ b3 (Box.next S2 b3) ⟨_, _, rfl, o3⟩ (fun _ b hb => by simp [Loose.blks, Loose.partBlk, Loose.cellBlk] at hb; omega)
    · refine Loose.Owes.op rfl rfl rfl ?_
      intro a2 w2 e2 S2 hout hpre hap K2 hK
      have HK := Lib.hid hK
      clear hK hout hpre hap hc
      go_simp
      exact HK.out _ _ (below1 _ _) (Box.next S2 (below1 _ _)) ⟨_, rfl, World.ownsRow_made w2 #[] 0 (lt_of_block S2.held) (by unfold maxLen; omega) rfl⟩ (fun _ b hb => by simp [Loose.blks, Loose.partBlk, Loose.cellBlk] at hb; omega)
    · refine Loose.Owes.op rfl rfl rfl ?_
      intro a2 w2 e2 S2 hout hpre hap K2 hK
      have f1 : a2.eval (.tmp 32) = .slice (some ⟨bH, oH, none⟩) 24 c' := (hout 32 (by decide)).trans (by kernel_rfl)
      obtain ⟨g, f2, f3⟩ := hpre (8, 30) (by simp) (by kernel_rfl)
      have hb := S2.below
      refine wp_append_copy (.tmp 30) (.tmp 32) 22 rfl (w.heap.size + 1) 3 i0 (.int .i64 0) 8 Try.underlying22 ti hz0 hz1 hz2 rfl g f2 (f2 ▸ f3) bH oH 24 c' (a.H.map (Value.int .i64)) f1 (by omega) (by simp [hl']) (ints_cells fun i hi => ?_) ints_one (by omega) (by omega) (lt_of_block S2.held) ?_
      · rw [hb.cell (p := ⟨bH, oH + i, none⟩) hbH]; exact hcH i (by omega)
      · intro c2 w3 o3 b3
        exact hK _ _ b3 (Box.next S2 b3) ⟨_, _, rfl, o3⟩ (fun _ b hb => by simp [Loose.blks, Loose.partBlk, Loose.cellBlk] at hb; omega)
    · refine Loose.Owes.op rfl rfl rfl ?_
      intro a2 w2 e2 S2 hout hpre hap K2 hK
      obtain ⟨g, c1, f1, o1⟩ := hpre (7, 29) (by simp) (by kernel_rfl)
      obtain ⟨g', c1', f1', o1'⟩ := hpre (11, 33) (by simp) (by kernel_rfl)
      have ne := hap (7, 29) (by simp) (11, 33) (by simp) (by kernel_rfl) (by kernel_rfl) (by decide) rfl rfl
      have h23 : a2.eval (.tmp 23) = .int .i64 a.f := (hout 23 (by decide)).trans (by kernel_rfl)
      have h25 : a2.eval (.tmp 25) = .int .i64 a.t := (hout 25 (by decide)).trans (by kernel_rfl)
      simp only at f1 f1' ne
      rw [f1] at ne o1
      rw [f1'] at ne o1'
      have HK := Lib.hid hK
      have Ne := Lib.hid ne
      clear hK hout hpre hap hc ne
      simp only [Act.eval, Array.getD_eq_getD_getElem?] at h23 h25 f1 f1'
      go_simp
      refine HK.out _ _ (Ext.refl _) S2 ⟨_, _, rfl, ⟨_, _, rfl, o1⟩, ⟨_, _, rfl, o1'⟩, ?_⟩ (fun h => by cases h)
      intro he
      simp [Value.ownBlock] at he
      exact Ne.out g (by simp [Loose.blks, Loose.partBlk, Loose.cellBlk]) (by simp [Loose.blks, Loose.partBlk, Loose.cellBlk, he])
    · refine Loose.Owes.op rfl rfl rfl ?_
      intro a2 w2 e2 S2 hout hpre hap K2 hK
      have HK := Lib.hid hK
      clear hK hout hpre hap hc
      go_simp
      exact HK.out _ _ (below1 _ _) (Box.next S2 (below1 _ _)) ⟨_, rfl, lt_of_block S2.held, heap_alloc_new w2 _⟩ (fun _ b hb => by simp [Loose.blks, Loose.partBlk, Loose.cellBlk] at hb; omega)
  · intro vs w2 e2 S2 hR hap K2 hK
    obtain ⟨x1, y1, f1, ⟨g, c1, rfl, o1⟩, ⟨g', c1', rfl, o1'⟩, ne⟩ := hR (12, 34) (by simp)
    obtain ⟨q, f2, q1, q2⟩ := hR (13, 10) (by simp)
    simp only [Loose.lay, List.foldl]
    simp only at f1 f2
    rw [f1, f2]
    generalize vs 26 = v26; generalize vs 29 = v29; generalize vs 30 = v30; generalize vs 33 = v33
    try simp only [List.getElem_toArray, List.getElem_cons_succ, List.getElem_cons_zero, Act.put, List.setIfInBounds_toArray, List.set_cons_zero, List.set_cons_succ]
    clear hR hap f1 f2 hc hS
    have cq := fun j => cell_of_row _ q j _ _ _ q2
    have fq := fun j => frozen_of_row _ q j _ _ q2
    have HK := Lib.hid hK; clear hK
    have T := Lib.hid (tail_facts (a := a) S2 (by omega) q2 o1 o1')
    refine Loose.lastOp rfl rfl (fun K3 hK3 => ?_)
    have HK3 := Lib.hid hK3; clear hK3
    go_simp
    refine HK3.out _ _ (HK.out _ _ T.out.1 ?_)
    obtain ⟨T1, T2, T3, T4⟩ := T.out
    clear HK3 HK T cq fq q2 o1 o1' S2 e2
    generalize (((w2.setCell { block := q, off := 0 } (Value.int IntKind.i64 a.f)).setCell { block := q, off := 1 } (Value.int IntKind.i64 a.t)).setCell { block := q, off := 2 } (Value.slice (some { block := g, off := 0 }) 24 c1)).setCell { block := q, off := 3 } (Value.slice (some { block := g', off := 0 }) 24 c1') = w3 at *
    have hc := T1.cells
    have k0 : 0 ≤ x % 24 := by omega
    have k1 : x % 24 < 24 := by omega
    go_wp2_with fail
    clear hc
    obtain ⟨m, hm0, hm1⟩ : ∃ m : Nat, x % 24 = m ∧ m < 24 := ⟨(x % 24).toNat, by omega, by omega⟩
    rw [hm0] at k0 k1 ⊢
    clear hm0
    have cL := hcL m hm1
    obtain ⟨z, hz⟩ : ∃ z, a.L.getD m 0 = z := ⟨_, rfl⟩
    rw [hz] at cL
    have Hz := Lib.hid hz; clear hz
    have gq : g' ≠ q := fun e => by
      subst e
      rcases T4.2 with ⟨e, _⟩ | ⟨g2, cap, cur, e, _, hg, _⟩
      · cases e
      · injection e with e; injection e with e; injection e with e
        subst e
        rw [T2] at hg
        simp at hg
    have gB : w.heap.size + 1 ≤ g' := (T4.lt _ rfl).1
    refine Loose.start (S := fun w' => InBox w w.heap.size #[.int .i64 a.f, .int .i64 a.t, .slice (some ⟨bL, oL, none⟩) 24 c, .slice (some ⟨bH, oH, none⟩) 24 c'] a w' ∧ w'.heap[q]? = some (.cells #[.int .i64 a.f, .int .i64 a.t, .slice (some ⟨g, 0, none⟩) 24 c1, .slice (some ⟨g', 0, none⟩) 24 c1'] 24 (0, 0))) (n := 10) (by kernel_rfl) (by kernel_rfl) ?_
    have hS : InBox w w.heap.size #[.int .i64 a.f, .int .i64 a.t, .slice (some ⟨bL, oL, none⟩) 24 c, .slice (some ⟨bH, oH, none⟩) 24 c'] a w3.drew ∧ w3.drew.heap[q]? = some (.cells #[.int .i64 a.f, .int .i64 a.t, .slice (some ⟨g, 0, none⟩) 24 c1, .slice (some ⟨g', 0, none⟩) 24 c1'] 24 (0, 0)) := ⟨Box.drew T1, T2⟩
    apply wpAnyH_take (i := 0); (case hi => rfl); (case hs => kernel_rfl); (case hf => kernel_rfl); (case hr => kernel_rfl); (case hQ => exact fun _ _ _ h => h); (case hS => assumption); (case hy => refine Or.inl ⟨by rfl, ?_⟩; intro w2 S2; have hc2 := Box.cells S2.1; have hq2 := fun j => cell_of_row _ q j _ _ _ S2.2; have hl2 := (S2.1.below.cell (p := ⟨bL, oL + m, none⟩) hbL).trans cL; go_simp; with_reducible rfl); try simp only [List.getElem_toArray, List.getElem_cons_succ, List.getElem_cons_zero, Act.put, List.setIfInBounds_toArray, List.set_cons_zero, List.set_cons_succ]
    apply wpAnyH_take (i := 1); (case hi => rfl); (case hs => kernel_rfl); (case hf => kernel_rfl); (case hr => kernel_rfl); (case hQ => exact fun _ _ _ h => h); (case hS => assumption); (case hy => refine Or.inl ⟨by rfl, ?_⟩; intro w2 S2; have hc2 := Box.cells S2.1; have hq2 := fun j => cell_of_row _ q j _ _ _ S2.2; have hl2 := (S2.1.below.cell (p := ⟨bL, oL + m, none⟩) hbL).trans cL; go_simp; with_reducible rfl); try simp only [List.getElem_toArray, List.getElem_cons_succ, List.getElem_cons_zero, Act.put, List.setIfInBounds_toArray, List.set_cons_zero, List.set_cons_succ]
    apply wpAnyH_take (i := 2); (case hi => rfl); (case hs => kernel_rfl); (case hf => kernel_rfl); (case hr => kernel_rfl); (case hQ => exact fun _ _ _ h => h); (case hS => assumption); (case hy => refine Or.inl ⟨by rfl, ?_⟩; intro w2 S2; have hc2 := Box.cells S2.1; have hq2 := fun j => cell_of_row _ q j _ _ _ S2.2; have hl2 := (S2.1.below.cell (p := ⟨bL, oL + m, none⟩) hbL).trans cL; go_simp; with_reducible rfl); try simp only [List.getElem_toArray, List.getElem_cons_succ, List.getElem_cons_zero, Act.put, List.setIfInBounds_toArray, List.set_cons_zero, List.set_cons_succ]
    apply wpAnyH_take (i := 3); (case hi => rfl); (case hs => kernel_rfl); (case hf => kernel_rfl); (case hr => kernel_rfl); (case hQ => exact fun _ _ _ h => h); (case hS => assumption); (case hy => refine Or.inl ⟨by rfl, ?_⟩; intro w2 S2; have hc2 := Box.cells S2.1; have hq2 := fun j => cell_of_row _ q j _ _ _ S2.2; have hl2 := (S2.1.below.cell (p := ⟨bL, oL + m, none⟩) hbL).trans cL; go_simp; with_reducible rfl); try simp only [List.getElem_toArray, List.getElem_cons_succ, List.getElem_cons_zero, Act.put, List.setIfInBounds_toArray, List.set_cons_zero, List.set_cons_succ]
    apply wpAnyH_take (i := 4); (case hi => rfl); (case hs => kernel_rfl); (case hf => kernel_rfl); (case hr => kernel_rfl); (case hQ => exact fun _ _ _ h => h); (case hS => assumption); (case hy => refine Or.inl ⟨by rfl, ?_⟩; intro w2 S2; have hc2 := Box.cells S2.1; have hq2 := fun j => cell_of_row _ q j _ _ _ S2.2; have hl2 := (S2.1.below.cell (p := ⟨bL, oL + m, none⟩) hbL).trans cL; go_simp; with_reducible rfl); try simp only [List.getElem_toArray, List.getElem_cons_succ, List.getElem_cons_zero, Act.put, List.setIfInBounds_toArray, List.set_cons_zero, List.set_cons_succ]
    apply wpAnyH_take (i := 5); (case hi => rfl); (case hs => kernel_rfl); (case hf => kernel_rfl); (case hr => kernel_rfl); (case hQ => exact fun _ _ _ h => h); (case hS => assumption); (case hy => refine Or.inl ⟨by rfl, ?_⟩; intro w2 S2; have hc2 := Box.cells S2.1; have hq2 := fun j => cell_of_row _ q j _ _ _ S2.2; have hl2 := (S2.1.below.cell (p := ⟨bL, oL + m, none⟩) hbL).trans cL; go_simp; with_reducible rfl); try simp only [List.getElem_toArray, List.getElem_cons_succ, List.getElem_cons_zero, Act.put, List.setIfInBounds_toArray, List.set_cons_zero, List.set_cons_succ]
    apply wpAnyH_take (i := 6); (case hi => rfl); (case hs => kernel_rfl); (case hf => kernel_rfl); (case hr => kernel_rfl); (case hQ => exact fun _ _ _ h => h); (case hS => assumption); (case hy => refine Or.inl ⟨by rfl, ?_⟩; intro w2 S2; have hc2 := Box.cells S2.1; have hq2 := fun j => cell_of_row _ q j _ _ _ S2.2; have hl2 := (S2.1.below.cell (p := ⟨bL, oL + m, none⟩) hbL).trans cL; go_simp; with_reducible rfl); try simp only [List.getElem_toArray, List.getElem_cons_succ, List.getElem_cons_zero, Act.put, List.setIfInBounds_toArray, List.set_cons_zero, List.set_cons_succ]
    apply wpAnyH_take (i := 7); (case hi => rfl); (case hs => kernel_rfl); (case hf => kernel_rfl); (case hr => kernel_rfl); (case hQ => exact fun _ _ _ h => h); (case hS => assumption); (case hy => refine Or.inl ⟨by rfl, ?_⟩; intro w2 S2; have hc2 := Box.cells S2.1; have hq2 := fun j => cell_of_row _ q j _ _ _ S2.2; have hl2 := (S2.1.below.cell (p := ⟨bL, oL + m, none⟩) hbL).trans cL; go_simp; with_reducible rfl); try simp only [List.getElem_toArray, List.getElem_cons_succ, List.getElem_cons_zero, Act.put, List.setIfInBounds_toArray, List.set_cons_zero, List.set_cons_succ]
    apply wpAnyH_take (i := 8); (case hi => rfl); (case hs => kernel_rfl); (case hf => kernel_rfl); (case hr => kernel_rfl); (case hQ => exact fun _ _ _ h => h); (case hS => assumption); (case hy => refine Or.inl ⟨by rfl, ?_⟩; intro w2 S2; have hc2 := Box.cells S2.1; have hq2 := fun j => cell_of_row _ q j _ _ _ S2.2; have hl2 := (S2.1.below.cell (p := ⟨bL, oL + m, none⟩) hbL).trans cL; go_simp; with_reducible rfl); try simp only [List.getElem_toArray, List.getElem_cons_succ, List.getElem_cons_zero, Act.put, List.setIfInBounds_toArray, List.set_cons_zero, List.set_cons_succ]
    refine Loose.held (js := []) (last := some 9) (R := fun _ _ _ => True) (fun _ => false) (by kernel_rfl) (fun _ _ _ h => by cases h) (fun _ _ _ _ _ h => h) hS (fun p hp => by cases hp) ?_
    intro vs w4 e4 S4 _ _ K4 hK4
    have O3 := owns_ext (w := w3.drew) T3 e4
    have O4 := owns_ext (w := w3.drew) T4 e4
    have d1 := O4.cellAt m (by omega)
    have d2 := O4.frozenAt m
    have d3 : (a.H.map (Value.int .i64))[m]? = some (.int .i64 (a.H.getD m 0)) := by
      rw [List.getElem?_map, List.getD_eq_getElem?_getD, List.getElem?_eq_getElem (by omega)]; rfl
    rw [d3] at d1
    have n1 : Value.ownBlock (.slice (some ⟨g, 0, none⟩) 24 c1) ≠ some g' := fun e => ne (by rw [e]; rfl)
    have P3 := ownsRow_setCell_other (a := ⟨g', m, none⟩) O3 n1 (.int .i64 z)
    have P4 := (O4.stored m (.int .i64 z)).1
    have S5 : InBox w w.heap.size #[.int .i64 a.f, .int .i64 a.t, .slice (some ⟨bL, oL, none⟩) 24 c, .slice (some ⟨bH, oH, none⟩) 24 c'] a (w4.setCell ⟨g', m, none⟩ (.int .i64 z)) := Box.store S4.1 (by omega) (by omega) _
    have q5 : (w4.setCell ⟨g', m, none⟩ (.int .i64 z)).heap[q]? = some (.cells #[.int .i64 a.f, .int .i64 a.t, .slice (some ⟨g, 0, none⟩) 24 c1, .slice (some ⟨g', 0, none⟩) 24 c1'] 24 (0, 0)) := by
      rw [Below.heap_setCell w4 ⟨g', m, none⟩ _ q (Ne.symm gq)]; exact S4.2
    have A5 : IsArc (w4.setCell ⟨g', m, none⟩ (.int .i64 z)) (.agg #[.int .i64 a.f, .int .i64 a.t, .slice (some ⟨g, 0, none⟩) 24 c1, .slice (some ⟨g', 0, none⟩) 24 c1']) (a.less m) :=
      ⟨_, _, _, _, _, _, rfl, owns_ints P3 (by omega), owns_ints (xs := a.H.set m (a.L.getD m 0)) (by rw [List.map_set, Hz.out]; exact P4) (by omega)⟩
    have HK4 := Lib.hid hK4
    clear hK4 O3 O4 P3 P4 T1 T2 T3 T4 e4 S4 hS
    refine Loose.lastOp rfl rfl (fun K3 hK3 => ?_)
    have HK3 := Lib.hid hK3; clear hK3
    try simp only [List.getElem_toArray, List.getElem_cons_succ, List.getElem_cons_zero, Act.put, List.setIfInBounds_toArray, List.set_cons_zero, List.set_cons_succ]
    simp only [Loose.lay, List.foldl]
    go_simp
    refine HK3.out _ _ (HK4.out _ _ ⟨S5, q5⟩ ?_)
    clear HK3 HK4 d1 d2 d3
    generalize (w4.setCell ⟨g', m, none⟩ (.int .i64 z)) = w5 at *
    have B5 : Box w5 w5 q #[.int .i64 a.f, .int .i64 a.t, .slice (some ⟨g, 0, none⟩) 24 c1, .slice (some ⟨g', 0, none⟩) 24 c1'] (a.less m) := ⟨A5, Below.refl _ _, q5⟩
    have e1 : decide (a.lastF false y < a.lastF true y) = false := by
      rw [Arc.lastF_yes _ _ rr, Arc.lastF_yes _ _ rr]
      have := last_le_of (a := a) (b := a) (hi := false) (hj := true) (fun u => a.tk_mono rr u) y
      simp; omega
    have e2' : decide ((a.less m).lastF true y < a.lastF true y) = false := by
      rw [Arc.lastF_yes _ _ rr, Arc.lastF_yes _ _ (less_right rr hm1)]
      have := last_le_of (a := a.less m) (b := a) (hi := true) (hj := true) (fun u => (less_tk rr hm1 u).1) y
      simp; omega
    go_wp2_with fail
    have T5 : InTwo w w.heap.size #[.int .i64 a.f, .int .i64 a.t, .slice (some ⟨bL, oL, none⟩) 24 c, .slice (some ⟨bH, oH, none⟩) 24 c'] a w5 q #[.int .i64 a.f, .int .i64 a.t, .slice (some ⟨g, 0, none⟩) 24 c1, .slice (some ⟨g', 0, none⟩) 24 c1'] (a.less m) w5 := ⟨S5, B5⟩
    refine wp_region_class (InTwo w w.heap.size #[.int .i64 a.f, .int .i64 a.t, .slice (some ⟨bL, oL, none⟩) 24 c, .slice (some ⟨bH, oH, none⟩) 24 c'] a w5 q #[.int .i64 a.f, .int .i64 a.t, .slice (some ⟨g, 0, none⟩) 24 c1, .slice (some ⟨g', 0, none⟩) 24 c1'] (a.less m)) (by kernel_rfl) (by kernel_rfl) (InTwo.drew T5) ?_
    repeat (go_big_quiet_step (first | (intro S1; go_at_call 16; first | (with_reducible exact (Clock.last_any (InTwo.l S1).arc _ _).mono fun e w7 ⟨h, hb⟩ => ⟨h, InTwo.next S1 hb⟩) | (with_reducible exact (Clock.last_any (InTwo.r S1).arc _ _).mono fun e w7 ⟨h, hb⟩ => ⟨h, InTwo.next S1 hb⟩)) | (intro S1; have hc1 := (InTwo.l S1).cells; have hc2 := (InTwo.r S1).cells; go_simp; rfl)))
    refine wpQuiet_nil ?_
    intro w6 T6
    replace T6 : InTwo w w.heap.size #[.int .i64 a.f, .int .i64 a.t, .slice (some ⟨bL, oL, none⟩) 24 c, .slice (some ⟨bH, oH, none⟩) 24 c'] a w5 q #[.int .i64 a.f, .int .i64 a.t, .slice (some ⟨g, 0, none⟩) 24 c1, .slice (some ⟨g', 0, none⟩) 24 c1'] (a.less m) w6 := T6
    clear T5 S5 B5 A5 q5
    have hcA := T6.l.cells
    have hcB := T6.r.cells
    by_cases ht : t < 0 ∨ 1048576 < t
    · have v1 : a.validB t = false := Arc.validB_no fun h => by have := h.1; have := h.2; omega
      have g1 : (a.passF true t == -1) = true := by unfold Arc.passF; simp [v1]
      have g2 : (a.tookF false t == -1) = true := by unfold Arc.tookF; simp [v1]
      rcases ht with ht | ht
      all_goals
        go_wp2_with (first
          | (go_at_call 14; refine (Clock.pass_any T6.l.arc _ _).mono ?_; rintro e w' ⟨rfl, hw⟩; replace T6 := T6.next hw; replace hcA := T6.l.cells; clear hw)
          | (go_at_call 12; refine (Clock.took_any T6.l.arc _ _).mono ?_; rintro e w' ⟨rfl, hw⟩; replace T6 := T6.next hw; replace hcA := T6.l.cells; clear hw))
        go_ret
        exact ⟨rfl, T6.l.below⟩
    · have t0 : 0 ≤ t := by omega
      have t1 : t ≤ 1048576 := by omega
      clear ht
      have rl := less_right rr hm1
      have g1 : decide (a.passF false t ≤ a.passF true t) = true := by
        rw [Arc.passF_yes _ rr ⟨t0, t1⟩, Arc.passF_yes _ rr ⟨t0, t1⟩]
        exact decide_eq_true (pass_le (fun u => a.tk_mono rr u) t1)
      have g2 : decide ((a.less m).passF true t ≤ a.passF true t) = true := by
        rw [Arc.passF_yes _ rr ⟨t0, t1⟩, Arc.passF_yes _ rl ⟨t0, t1⟩]
        exact decide_eq_true (pass_le (fun u => (less_tk rr hm1 u).1) t1)
      have g3 : decide (a.passF false t ≤ (a.less m).passF true t) = true := by
        rw [Arc.passF_yes _ rr ⟨t0, t1⟩, Arc.passF_yes _ rl ⟨t0, t1⟩]
        exact decide_eq_true (pass_le (fun u => (less_tk rr hm1 u).2) t1)
      go_wp2_with fail
      refine wp_region_class (InTwo w w.heap.size #[.int .i64 a.f, .int .i64 a.t, .slice (some ⟨bL, oL, none⟩) 24 c, .slice (some ⟨bH, oH, none⟩) 24 c'] a w5 q #[.int .i64 a.f, .int .i64 a.t, .slice (some ⟨g, 0, none⟩) 24 c1, .slice (some ⟨g', 0, none⟩) 24 c1'] (a.less m)) (by kernel_rfl) (by kernel_rfl) (InTwo.drew T6) ?_
      repeat (go_big_quiet_step (first | (intro S1; go_at_call 14; first | (with_reducible exact (Clock.pass_any (InTwo.l S1).arc _ _).mono fun e w7 ⟨h, hb⟩ => ⟨h, InTwo.next S1 hb⟩) | (with_reducible exact (Clock.pass_any (InTwo.r S1).arc _ _).mono fun e w7 ⟨h, hb⟩ => ⟨h, InTwo.next S1 hb⟩)) | (intro S1; have hc1 := (InTwo.l S1).cells; have hc2 := (InTwo.r S1).cells; go_simp; rfl)))
      refine wpQuiet_nil ?_
      intro w8 T8
      go_wp2_with fail
      go_ret
      exact ⟨rfl, (InTwo.l T8).below⟩
end Bounds
end Go.Proofs.Ytjdjadnmlbmjdaa
