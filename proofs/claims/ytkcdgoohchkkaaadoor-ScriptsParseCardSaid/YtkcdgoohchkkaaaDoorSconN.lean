/-
  Package scripts: Parse. Condition: the table 'more' holds what the program's text lays (Tabs); bytes.
-/
import Derived.Test.YtkcdgoohchkkaaaDoorSconM
set_option linter.unusedSimpArgs false
set_option linter.unusedVariables false
namespace Go.Proofs.YtkcdgoohchkkaaaDoor
open Go Go.RowKit Go.Shelf
attribute [local go_sem] Oper.semAt_some
theorem info34 : (Tryd.prog.info? 34).map (fun i => (i.zero, i.size, i.bytes)) = some (some (.agg #[.int .u8 0, .int .i64 0, .int .i64 0, .int .i64 0, .int .i64 0, .int .u8 0, .int .u8 0, .int .u64 0, .int .u64 0]), 9, 64) := by kernel_rfl
theorem Cs_len (f : Cm → List Value) (hf : ∀ c, (f c).length = 9) (l : List Cm) : (Cs f l).length = l.length * 9 := by
  induction l with
  | nil => rfl
  | cons c l ih => show (f c ++ Cs f l).length = _; rw [List.length_append, ih, hf, List.length_cons]; omega
theorem L_one (c : Cm) : ∀ u ∈ Cm.L c, u.oneCell' = true := by
  intro u hu
  unfold Cm.L at hu
  simp at hu
  rcases hu with rfl | rfl | rfl | rfl | rfl | rfl | rfl | rfl | rfl <;> rfl
/-- What Parse has gathered so far. -/
structure Gath (w W : World) (pre : List Cm) (v : Value) : Prop where
  box : Boxed W w.heap.size 25 v
  own : W.ownsRow (w.heap.size + 1) 34 9 v pre.length (Cs Cm.L pre)
  bel : Below w.heap.size w W
theorem Gath.out {w W : World} {pre : List Cm} {v : Value} (h : Gath w W pre v) : OutAt W w.heap.size v := ⟨h.box, fun k e => (h.own.lt k e).2⟩
theorem own_kept {w w' : World} {base n size : Nat} {e : TypeId} {v : Value} {xs : List Value} {row : Option Nat} (h : w.ownsRow base e size v n xs) (hg : w.grownBy w' row) (hr : ∀ r, row = some r → ∃ o : Obj, w.heap[r]? = some o ∧ o.isCells = false) : w'.ownsRow base e size v n xs := by
  refine ⟨h.1, ?_⟩
  rcases h.2 with h0 | ⟨g, cap, cur, rfl, hb, hh, r⟩
  · exact .inl h0
  · refine .inr ⟨g, cap, cur, rfl, hb, (hg.block g (lt_of_heap hh) (fun e => ?_)).trans hh, r⟩
    obtain ⟨o, ho, hc⟩ := hr g e.symm
    rw [hh] at ho; cases ho; simp [Obj.isCells] at hc
theorem boxed_kept {w w' : World} {b : Nat} {t : TypeId} {v : Value} {row : Option Nat} (h : Boxed w b t v) (hg : w.grownBy w' row) (hr : ∀ r, row = some r → ∃ o : Obj, w.heap[r]? = some o ∧ o.isCells = false) : Boxed w' b t v := by
  refine h.kept hg (fun e => ?_)
  obtain ⟨o, ho, hc⟩ := hr b e.symm
  rw [show w.heap[b]? = _ from h] at ho; cases ho; simp [Obj.isCells] at hc
theorem gath_own (w : World) (B : Nat) (hB : w.heap.size ≤ B) : OwnFrom B (fun pre W => ∃ v, Gath w W pre v) := by
  intro s W W' row ⟨v, h⟩ hg hr
  have hr' : ∀ r, row = some r → ∃ o : Obj, W.heap[r]? = some o ∧ o.isCells = false := fun r e => (hr r e).2
  exact ⟨v, boxed_kept h.box hg hr', own_kept h.own hg hr', h.bel.grown hg h.bel.size (fun k e => Nat.le_trans hB (hr k e).1)⟩
theorem bk_kept {w w' : World} {b : Nat} {t : TypeId} {cs : List Value} {row : Option Nat} (h : Bk w b t cs) (hg : w.grownBy w' row) (hr : ∀ r, row = some r → ∃ o : Obj, w.heap[r]? = some o ∧ o.isCells = false) : Bk w' b t cs := by
  refine (hg.block b h.size (fun e => ?_)).trans h
  obtain ⟨o, ho, hc⟩ := hr b e.symm
  rw [show w.heap[b]? = _ from h] at ho; cases ho; simp [Obj.isCells] at hc
theorem each_stops (n : Nat) (hn : 1 ≤ n) (w w0 : World) (A : Option Addr) (nb cb L : Nat) (l : List Int) (hL : L = min nb 65536) (hc : nb ≤ cb) (hm : cb ≤ maxLen) (hB : Byt l) (ht : Tabs w) (hS : Sl w w.heap.size 1 A nb (Us l))
    (hb : Below w.heap.size w w0) (hbs : Boxed w0 (w.heap.size + 1) 22 (.slice A nb cb)) (hv : Boxed w0 w.heap.size 25 (.slice none 0 0)) :
    SeqStopsK Fence.wide n Tryd.prog 33 #[.pointer (some ⟨w.heap.size + 1, 0, none⟩)] (fun x : Cm => #[x.V]) (Kept w.heap.size w.heap.size) (fun ys => ys = parseC l L) (fun _ => True) L w0 := fun lp J Jx W hW hJa _ hY h0 => by
  have hbW : Below w.heap.size w W := hb.trans (hW.mono hb.size)
  refine each1_in n hn lp (w.heap.size + 1) w.heap.size w.heap.size A nb cb L l hL hc hm hB J Jx (fun pre W1 W2 hj hb2 => ?_) hY W (ht.below hbW ht.size) ht.size (hS.below hbW) (boxed_below hbs hW) (.slice none 0 0) ⟨boxed_below hv hW, fun k e => by cases e⟩ (fun e => by cases e) (by omega) hbW.size h0
  exact hJa pre W1 W2 none hj ⟨hb2.os, hb2.tape, hb2.output, hb2.size, fun k hk _ => hb2.block k hk⟩ (fun r e => by cases e)
theorem Kept.below {n0 ob : Nat} {W W' : World} (hn : n0 ≤ W.heap.size) (hb : Below W.heap.size W W') : Kept n0 ob W W' :=
  ⟨hb.mono hn, fun v hv => ⟨v, hv.below hb, .inl rfl, fun k cs t fr h _ _ => (hb.block k (lt_of_heap h)).trans h⟩⟩
theorem Gath.below {w W W' : World} {pre : List Cm} {v : Value} (h : Gath w W pre v) (hb : Below W.heap.size W W') : Gath w W' pre v := ⟨boxed_below h.box hb, own_below h.own hb, below_call h.bel hb⟩
theorem gath_step {w W w' : World} {pre : List Cm} {x : Cm} {v v' : Value} (h : Gath w W pre v) (hown : w'.ownsRow (w.heap.size + 1) 34 9 v' (pre.length + 1) (Cs Cm.L pre ++ Cm.L x)) (hg : W.grownBy w' v.ownBlock) (hm : Moved W v v') (B : Nat) :
    KeepsFrom B W (w'.setCell ⟨w.heap.size, 0, none⟩ v') ∧ Kept w.heap.size w.heap.size W (w'.setCell ⟨w.heap.size, 0, none⟩ v') ∧ ∃ v, Gath w (w'.setCell ⟨w.heap.size, 0, none⟩ v') (pre ++ [x]) v := by
  have hob : some w.heap.size ≠ v.ownBlock := fun e => by have := (h.own.lt _ e.symm).1; omega
  have hob' : some w.heap.size ≠ v'.ownBlock := fun e => by have := (hown.lt _ e.symm).1; omega
  have hbx : Boxed w' w.heap.size 25 v := h.box.kept hg hob
  have hbl : Below w.heap.size w w' := h.bel.grown hg h.bel.size (fun k e => by have := (h.own.lt k e).1; omega)
  have hvc : ∀ k, v.ownBlock = some k → ∃ (cs : Array Value) (t : TypeId) (fr : Nat × Nat), W.heap[k]? = some (Obj.cells cs t fr) := by
    intro k e
    rcases h.own.2 with ⟨rfl, _⟩ | ⟨g, cap, cur, rfl, _, hh, _⟩
    · cases e
    · cases e; exact ⟨_, _, _, hh⟩
  refine ⟨⟨Nat.le_trans hg.size (by simp [World.setCell]), fun k o _ hk hc => ?_⟩, ⟨?_, fun v1 hv1 => ?_⟩, v', ⟨hbx.set v', ?_, hbl.setCell (p := ⟨w.heap.size, 0, none⟩) (Nat.le_refl _) _⟩⟩
  · have hne : k ≠ w.heap.size := by
      intro e; subst e
      rw [show W.heap[w.heap.size]? = _ from h.box] at hk; cases hk; simp [Obj.isCells] at hc
    refine (Below.heap_setCell _ _ _ _ hne).trans ((hg.block k (lt_of_heap hk) (fun e => ?_)).trans hk)
    obtain ⟨cs, t, fr, h2⟩ := hvc k e.symm
    rw [h2] at hk; cases hk; simp [Obj.isCells] at hc
  · refine ((Below.refl w.heap.size W).grown hg h.bel.size (fun k e => by have := (h.own.lt k e).1; omega)).setCell (p := ⟨w.heap.size, 0, none⟩) (Nat.le_refl _) _
  · have e1 : v1 = v := by
      have := hv1.1.cell.symm.trans h.box.cell
      exact Option.some.inj this
    subst e1
    refine ⟨v', ⟨hbx.set v', fun k e => by have := (hown.lt k e).2; simpa [World.setCell] using this⟩, hm, fun k cs t fr hk hne hv => ?_⟩
    exact (Below.heap_setCell _ _ _ _ hne).trans ((hg.block k (lt_of_heap hk) (fun e => hv e.symm)).trans hk)
  · rw [List.length_append, List.length_singleton, Cs_snoc]
    exact own_set (p := ⟨w.heap.size, 0, none⟩) hown hob' _
theorem own_some {w : World} {base n size : Nat} {e : TypeId} {v : Value} {xs : List Value} (h : w.ownsRow base e size v (n + 1) xs) : ∃ g cap, v = .slice (some ⟨g, 0, none⟩) (n + 1) cap := by
  rcases h.2 with ⟨_, h0⟩ | ⟨g, cap, cur, rfl, _⟩
  · omega
  · exact ⟨g, cap, rfl⟩
theorem gath_box {w W w' : World} {pre : List Cm} {v : Value} (h : Gath w W pre v) (hg : W.grownBy w' v.ownBlock) : w'.cell? ⟨w.heap.size, 0, none⟩ = some v ∧ w'.frozen? ⟨w.heap.size, 0, none⟩ = false := by
  have hbx : Boxed w' w.heap.size 25 v := h.box.kept hg (fun e => by have := (h.own.lt _ e.symm).1; omega)
  exact ⟨hbx.cell, hbx.frozen⟩
set_option maxHeartbeats 1000000 in
theorem clipC_any (A : Option Addr) (m c : Nat) (w : World) (h : m ≤ c) (hm : c ≤ maxLen) : Calls Tryd.prog 23 #[.slice A m c] w fun e w' => e = .returned (.slice A m m) ∧ w' = w := by
  unfold maxLen at hm
  go_enter Tryd.func23, Tryd.ntmps23
  go_wp2
  go_ret
  exact ⟨rfl, rfl⟩
set_option maxHeartbeats 1000000 in
theorem clipB_any (A : Option Addr) (m c : Nat) (w : World) (h : m ≤ c) (hm : c ≤ maxLen) : Calls Tryd.prog 32 #[.slice A m c] w fun e w' => e = .returned (.slice A m m) ∧ w' = w := by
  unfold maxLen at hm
  go_enter Tryd.func32, Tryd.ntmps32
  go_wp2
  go_ret
  exact ⟨rfl, rfl⟩
set_option maxRecDepth 100000 in
set_option maxHeartbeats 8000000 in
theorem parse_any (l : List Int) (A : Option Addr) (nb cb L : Nat) (w : World) (ht : Tabs w) (hS : Sl w w.heap.size 1 A nb (Us l)) (hB : Byt l) (hc : nb ≤ cb) (hm : cb ≤ maxLen) (hL : L = min nb 65536) :
    Calls Tryd.prog 10 #[.slice A nb cb] w fun e w' => ∃ A' c', e = .returned (.slice A' (parseC l L).length (parseC l L).length) ∧ w'.ownsRow (w.heap.size + 1) 34 9 (.slice A' (parseC l L).length c') (parseC l L).length (Cs Cm.L (parseC l L)) ∧ Below w.heap.size w w' := by
  refine (callsIn_wide (n := 4)).1 ?_
  obtain ⟨i0, hi0, hz0, hz1, hz2⟩ := info_parts info34
  have hL65 : L ≤ 65536 := by omega
  have HSeq := Lib.hid (fun w0 hb hbs hv => each_stops 3 (by omega) w w0 A nb cb L l hL hc hm hB ht hS hb hbs hv)
  clear hS ht hL
  refine callsIn_of_wp_marks Tryd.func10 rfl trivial ?_ rfl
  simp only [Tryd.ntmps10, List.size_toArray, List.length_cons, List.length_nil, Nat.reduceAdd, Nat.reduceSub, Array.replicate_succ, Array.replicate_zero, List.push_toArray, List.append_toArray, List.nil_append, List.cons_append]
  gi_wp2_with (refine ⟨trivial, ?_⟩; gi_at_call 22; refine (each_in _ _ _ _ _).mono ?_; rintro e w' ⟨rfl, rfl⟩)
  have b0 := (Boxed.new w 25 (.slice none 0 0)).alloc (.cells #[.slice A nb cb] 22)
  have b1 := Boxed.new (w.alloc (.cells #[.slice none 0 0] 25)) 22 (.slice A nb cb)
  have hB0 : Below w.heap.size w ((w.alloc (.cells #[.slice none 0 0] 25)).alloc (.cells #[.slice A nb cb] 22)) := ((Below.refl _ w).alloc (Nat.le_refl _) _).alloc (by simp) _
  have hz : w.heap.size + 2 = ((w.alloc (.cells #[.slice none 0 0] 25)).alloc (.cells #[.slice A nb cb] 22)).heap.size := by simp
  simp only [World.size_alloc] at b1
  generalize (w.alloc (.cells #[.slice none 0 0] 25)).alloc (.cells #[.slice A nb cb] 22) = w0 at b0 b1 hB0 hz ⊢
  have g0 : Gath w w0 [] (.slice none 0 0) := ⟨b0, World.ownsRow_nil _ _ _ _, hB0⟩
  refine wpIn_rangeFunc_ownH rfl (by omega) (gf := 33) (lb := #[.pointer (some ⟨w.heap.size + 1, 0, none⟩)]) rfl trivial (enters_of Tryd.func33 (by kernel_rfl) rfl)
    (HSeq.out w0 hB0 b1 b0) (fun h k => h.trans k) (fun W l o o' hl ho hc hw => Kept.putObj (m := w0.heap.size) (by omega) W l o o' hl ho hc hw) (Below.refl _ _) (fun _ => rfl)
    (fun pre W => ∃ v, Gath w W pre v)
    (fun _ _ _ => False)
    (gath_own w _ (by omega))
    (fun _ _ _ _ _ hs _ _ => hs)
    ⟨_, g0⟩
    (fun x a' W => ∃ cB, a' = { tmps := #[.slice A nb cb, undef, .pointer (some ⟨w.heap.size, 0, none⟩), .pointer (some ⟨cB, 0, none⟩), .slice A nb cb, .func (.func 33) #[] #[.pointer (some ⟨w.heap.size + 1, 0, none⟩)], x.V, undef, undef, undef, undef, undef, undef], defers := [] } ∧ Bk W cB 34 x.L)
    (fun x a' _ W W' row hs hg hr => by
      obtain ⟨cB, e, hk⟩ := hs
      exact ⟨cB, e, bk_kept hk hg (fun r e => (hr r e).2)⟩) ?assign ?body ?done ?stop
  case assign =>
    rintro lp pre x W K ⟨v, hG⟩ hK
    have HB1 : Hid (Below W.heap.size W (W.alloc (.cells (Cm.L x).toArray 34))) := (Below.refl _ _).alloc (Nat.le_refl _) _
    have HK := Lib.hid (hK _ _ ((KeepsOthers.alloc W (.cells (Cm.L x).toArray 34)).from _) (Kept.below hG.bel.size HB1.out) ⟨v, hG.below HB1.out⟩ ⟨W.heap.size, rfl, Bk.made _ _ _⟩)
    clear hK HB1 b0 b1 hB0 g0 hG
    obtain ⟨x0, x1, x2, x3, x4, x5, x6, x7, x8⟩ := x
    have hKK := HK.out
    clear HK
    unfold Cm.V Cm.L at hKK
    unfold Cm.V
    dsimp only at hKK ⊢
    gi_wp2
    exact hKK
  case body =>
    rintro lp pre x a' W hDl _ ⟨v, hG⟩ ⟨cB, rfl, hk⟩ hlen
    have c0 := hG.box.cell
    have f0 := hG.box.frozen
    have HG := Lib.hid hG
    have HOwn : Hid (W.ownsRow (w.heap.size + 1) 34 9 v pre.length (Cs Cm.L pre)) := hG.own
    have hsz : w.heap.size + 1 ≤ W.heap.size := by have := hG.box.lt; omega
    clear b0 b1 hB0 g0 hG
    obtain ⟨x0, x1, x2, x3, x4, x5, x6, x7, x8⟩ := x
    obtain ⟨d0, d1, d2, d3, d4, d5, d6, d7, d8⟩ := nine_cells (show Bk W cB 34 [.int .u8 x0, .int .i64 x1, .int .i64 x2, .int .i64 x3, .int .i64 x4, .int .u8 x5, .int .u8 x6, .int .u64 x7, .int .u64 x8] from hk)
    clear hk
    unfold Cm.V
    dsimp only
    gi_wp2_with (gi_at_builtin; refine wpListIn_append_struct rfl _ _ 25 rfl (w.heap.size + 1) 34 i0 _ 9 64 Tryd.underlying25 hi0 hz0 hz1 hz2 rfl (by omega) v pre.length (Cs Cm.L pre) rfl HOwn.out [.int .u8 x0, .int .i64 x1, .int .i64 x2, .int .i64 x3, .int .i64 x4, .int .u8 x5, .int .u8 x6, .int .u64 x7, .int .u64 x8] rfl rfl (L_one ⟨x0, x1, x2, x3, x4, x5, x6, x7, x8⟩) (by simp only [maxLen]; omega) (by omega) hsz ?_; intro v' w' hown' hg' hm'; obtain ⟨g', cap', hv'⟩ := own_some hown'; subst hv'; obtain ⟨c1, f1⟩ := gath_box HG.out hg')
    exact gath_step (x := ⟨x0, x1, x2, x3, x4, x5, x6, x7, x8⟩) HG.out (by assumption) (by assumption) (by assumption) _
  case stop =>
    rintro D c pre W _ _ h _
    exact h.elim
  case done =>
    rintro D ys W hD rfl ⟨v, hG⟩ hK
    have c0 := hG.box.cell
    have f0 := hG.box.frozen
    have HG := Lib.hid hG
    have HK := Lib.hid hK
    clear b0 b1 hB0 g0 hG hK
    obtain ⟨A', c', rfl, hmc, hcm, _, _⟩ := own_sl HG.out.own
    gi_wp2_with fail
    refine ⟨trivial, (callsIn_wide.2 (clipC_any A' _ c' W hmc hcm)).mono ?_⟩
    rintro e w2 ⟨rfl, hw2⟩
    subst w2
    gi_wp2
    have hob : some w.heap.size ≠ (Value.slice A' (parseC l L).length c').ownBlock := fun e => by have := (HG.out.own.lt _ e.symm).1; omega
    have hK' := (KeepsOthers.setCell W ⟨w.heap.size, 0, none⟩ (.slice A' (parseC l L).length (parseC l L).length)).same D _ HK.out rfl
    refine ⟨by simp, .inl ⟨_, _, rfl, run_takeDeferred hK', ?_⟩⟩
    have hc5 := cell_kept (World.cell?_setCell_same' W ⟨w.heap.size, 0, none⟩ (.slice A' (parseC l L).length (parseC l L).length) (by rw [c0]; rfl)) (grownBy_putObj' _ D (.deferred none)) (fun r e => by cases e; exact ⟨_, hK', rfl⟩)
    refine ⟨.slice A' (parseC l L).length (parseC l L).length, ?_, A', c', rfl, own_kept (own_set (p := ⟨w.heap.size, 0, none⟩) HG.out.own hob _) (grownBy_putObj' _ D (.deferred none)) (fun r e => by cases e; exact ⟨_, hK', rfl⟩), (HG.out.bel.setCell (p := ⟨w.heap.size, 0, none⟩) (Nat.le_refl _) _).trans (belowK_b (w := w0) (by omega) _ D _ _ (by omega) hK' rfl rfl)⟩
    simp [results, Tryd.f10, go_sem, hc5]
end Go.Proofs.YtkcdgoohchkkaaaDoor
