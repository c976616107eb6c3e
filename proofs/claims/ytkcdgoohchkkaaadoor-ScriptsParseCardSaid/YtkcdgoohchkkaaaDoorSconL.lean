/-
  Package scripts: the iterator over a script's commands (each, each$1), by a contract. Condition: the table 'more' holds what the program's text lays (Tabs); bytes.
-/
import Derived.Test.YtkcdgoohchkkaaaDoorSconK
import Derived.RangeFuncNested
import Derived.RangeFuncBound
import Derived.RangeFuncCalls
import Derived.RangeFuncLeaves
import Derived.RangeFuncBox
import Derived.Shelf.Abstract
import Derived.Shelf.RegionOpen
import Derived.OwnWalkIn
import Derived.TacticsInMore
import Derived.LoopNIn
import Derived.LoopIn
import Derived.Outline
set_option linter.unusedSimpArgs false
namespace Go.Proofs.YtkcdgoohchkkaaaDoor
open Go Go.RowKit Go.Shelf
attribute [local go_sem] Oper.semAt_some
/-- The caller's out box ob holds v, whose row is there. -/
def OutAt (W : World) (ob : Nat) (v : Value) : Prop := Boxed W ob 25 v ∧ ∀ k, v.ownBlock = some k → k < W.heap.size
/-- What a round of Parse keeps: all but the out box and out's row. -/
structure Kept (n0 ob : Nat) (W W' : World) : Prop where
  bel : Below n0 W W'
  out : ∀ v, OutAt W ob v → ∃ v', OutAt W' ob v' ∧ Moved W v v' ∧ ∀ k cs t fr, W.heap[k]? = some (.cells cs t fr) → k ≠ ob → v.ownBlock ≠ some k → W'.heap[k]? = some (.cells cs t fr)
theorem lt_of_heap {W : World} {k : Nat} {o : Obj} (h : W.heap[k]? = some o) : k < W.heap.size := (Array.getElem?_eq_some_iff.1 h).1
theorem Kept.trans {n0 ob : Nat} {A B C : World} (h : Kept n0 ob A B) (k : Kept n0 ob B C) : Kept n0 ob A C := by
  refine ⟨h.bel.trans k.bel, fun v hv => ?_⟩
  obtain ⟨v1, o1, m1, c1⟩ := h.out v hv
  obtain ⟨v2, o2, m2, c2⟩ := k.out v1 o1
  refine ⟨v2, o2, ?_, fun i cs t fr hi hne hv' => c2 i cs t fr (c1 i cs t fr hi hne hv') hne ?_⟩
  · rcases m2 with e2 | e2
    · rcases m1 with e1 | e1
      · exact .inl (e2.trans e1)
      · exact .inr fun i hi => e1 i (by rw [← e2]; exact hi)
    · exact .inr fun i hi => Nat.le_trans h.bel.size (e2 i hi)
  · rcases m1 with e1 | e1
    · rw [e1]; exact hv'
    · intro e; have := e1 i e; have := lt_of_heap hi; omega
theorem Kept.refl (n0 ob : Nat) (W : World) : Kept n0 ob W W := ⟨Below.refl _ _, fun v hv => ⟨v, hv, .inl rfl, fun _ _ _ _ h _ _ => h⟩⟩
theorem Kept.putObj {n0 ob m : Nat} (hm : n0 ≤ m) (W : World) (l : Nat) (o o' : Obj) (hl : m ≤ l) (ho : W.heap[l]? = some o) (hc : o.isCells = false) (hw : o.isWalk = false) : Kept n0 ob W (W.putObj l o') := by
  have hk : ∀ (k : Nat) (cs : Array Value) (t : TypeId) (fr : Nat × Nat), W.heap[k]? = some (Obj.cells cs t fr) → (W.putObj l o').heap[k]? = some (Obj.cells cs t fr) := by
    intro k cs t fr h
    have hne : k ≠ l := by
      intro e; subst e; rw [ho] at h; cases h; simp [Obj.isCells] at hc
    exact (World.putObj_heap_other hne).trans h
  refine ⟨(Below.refl n0 W).grown (grownBy_putObj' W l o') (by have := lt_of_heap ho; omega) (fun k e => by cases e; omega), fun v hv => ⟨v, ⟨hk _ _ _ _ hv.1, fun k e => ?_⟩, .inl rfl, fun k cs t fr h _ _ => hk k cs t fr h⟩⟩
  have := hv.2 k e
  simpa using this
/-- Nothing of the old turns. -/
theorem OutAt.below {W W' : World} {ob : Nat} {v : Value} (h : OutAt W ob v) (hb : Below W.heap.size W W') : OutAt W' ob v :=
  ⟨(hb.block ob (lt_of_heap h.1)).trans h.1, fun k e => Nat.lt_of_lt_of_le (h.2 k e) hb.size⟩
theorem boxed_below {W W' : World} {b : Nat} {t : TypeId} {v : Value} (h : Boxed W b t v) (hb : Below W.heap.size W W') : Boxed W' b t v := (hb.block b (lt_of_heap h)).trans h
theorem each_in (n : Nat) (a : Option Addr) (len cap : Nat) (w : World) :
    CallsIn Fence.wide n Tryd.prog 22 #[.slice a len cap] w fun e w' => e = .returned (.func (.func 33) #[] #[.pointer (some ⟨w.heap.size, 0, none⟩)]) ∧ w' = w.alloc (.cells #[.slice a len cap] 22) := by
  refine callsIn_of_wp Tryd.func22 rfl trivial ?_ rfl
  simp only [Tryd.ntmps22, List.size_toArray, List.length_cons, List.length_nil, Nat.reduceAdd, Nat.reduceSub, Array.replicate_succ, Array.replicate_zero, List.push_toArray, List.append_toArray, List.nil_append, List.cons_append]
  gi_wp2
  go_ret
  exact ⟨rfl, rfl⟩
set_option maxRecDepth 100000 in
set_option maxHeartbeats 8000000 in
theorem each1_in (n : Nat) (hn : 1 ≤ n) (lp Bs ob n0 : Nat) (A : Option Addr) (nb cb L : Nat) (l : List Int) (hL : L = min nb 65536) (hc : nb ≤ cb) (hm : cb ≤ maxLen) (hB : Byt l) (J Jx : List Cm → World → Prop)
    (hJ : ∀ pre W W', J pre W → Below W.heap.size W W' → J pre W')
    (hY : ∀ pre x W, J pre W → pre.length < L → YieldAt Fence.wide (n - 1) Tryd.prog lp #[Cm.V x] W fun e W' => (e = .returned (.bool true) ∧ J (pre ++ [x]) W' ∧ Kept n0 ob W W') ∨ (e = .returned (.bool false) ∧ Jx (pre ++ [x]) W'))
    (W : World) (ht : Tabs W) (hn0 : 0 < n0) (hS : Sl W n0 1 A nb (Us l)) (hbs : Boxed W Bs 22 (.slice A nb cb)) (v0 : Value) (hv : OutAt W ob v0) (hvb : v0.ownBlock ≠ some Bs) (hob : Bs ≠ ob) (hn0W : n0 ≤ W.heap.size) (h0 : J [] W) :
    CallsIn Fence.wide n Tryd.prog 33 #[.func (.yield lp) #[] #[], .pointer (some ⟨Bs, 0, none⟩)] W fun e W' => (∃ v, e = .returned v) ∧
      ((∃ ys, ys = parseC l L ∧ J ys W') ∨ (∃ pre, True ∧ Jx pre W')) := by
  have HS := Lib.hid hS
  have HT := Lib.hid ht
  have HBs := Lib.hid hbs
  have HV := Lib.hid hv
  have HVb := Lib.hid hvb
  have HOb := Lib.hid hob
  have HJ := Lib.hid hJ
  have HL := Lib.hid hL
  have HM := Lib.hid hm
  have hL65 : L ≤ 65536 := by omega
  clear hS ht hbs hv hvb hJ hL hob hm
  refine callsIn_of_wp Tryd.func33 rfl trivial ?_ rfl
  simp only [Tryd.ntmps33, List.size_toArray, List.length_cons, List.length_nil, Nat.reduceAdd, Nat.reduceSub, Array.replicate_succ, Array.replicate_zero, List.push_toArray, List.append_toArray, List.nil_append, List.cons_append]
  gi_wp2
  gi_loopw [3] (fun i wr => ∃ (pre : List Cm) (a : Nat) (v : Value), i = .int .i64 a ∧ Hid (Inv l L pre a) ∧ J pre wr ∧ Hid (Below n0 W wr ∧ Boxed wr Bs 22 (.slice A nb cb) ∧ OutAt wr ob v ∧ v.ownBlock ≠ some Bs))
    (fun i _ => L - (intOf i).toNat)
  case atStart => exact ⟨[], 0, v0, rfl, Inv.start l L, h0, Below.refl _ _, HBs.out, HV.out, HVb.out⟩
  case round =>
    obtain ⟨pre, a, v, rfl, hI, hJs, hst⟩ := hrel
    have hbc := hst.out.2.1.cell
    have HTr : Hid (Tabs wr) := HT.out.below hst.out.1 hn0
    have HSr : Hid (Sl wr wr.heap.size 1 A nb (Us l)) := (HS.out.below hst.out.1).mono (Nat.le_trans hn0W hst.out.1.size)
    by_cases ha : a < L
    · have he := endN_gt (l := l) ha
      have HI2 := Lib.hid (hI.out.step ha)
      have hpl : pre.length < L := by have := hI.out.len; omega
      have htt := nextC_tt l L a
      have hnx := next_in l A nb cb a L wr HTr.out HSr.out hB hc HM.out HL.out ha
      obtain ⟨x, hx⟩ : ∃ x, x = nextC l L a := ⟨_, rfl⟩
      rw [← hx] at HI2 hnx htt
      obtain ⟨en, hen⟩ : ∃ en, en = endN l L a := ⟨_, rfl⟩
      rw [← hen] at HI2 htt he
      have HNx := Lib.hid hnx
      clear hx hen hnx hI HTr HSr
      gi_wp2_with fail
      refine ⟨trivial, ((callsIn_wide (n := _)).2 HNx.out).mono ?_⟩
      rintro e w2 ⟨rfl, hb2⟩
      obtain ⟨x0, x1, x2, x3, x4, x5, x6, x7, x8⟩ := x
      obtain rfl : x2 = (en : Int) := htt
      have HB4 : Hid (Below wr.heap.size wr (w2.alloc (.cells (Cm.L ⟨x0, x1, en, x3, x4, x5, x6, x7, x8⟩).toArray 34))) := hb2.alloc hb2.size _
      have HK4 : Hid (Bk (w2.alloc (.cells (Cm.L ⟨x0, x1, en, x3, x4, x5, x6, x7, x8⟩).toArray 34)) w2.heap.size 34 (Cm.L ⟨x0, x1, en, x3, x4, x5, x6, x7, x8⟩)) := Bk.made _ _ _
      have hs2 := hb2.size
      clear HNx hbc hb2
      have hy4 := hY pre ⟨x0, x1, en, x3, x4, x5, x6, x7, x8⟩ (w2.alloc (.cells (Cm.L ⟨x0, x1, en, x3, x4, x5, x6, x7, x8⟩).toArray 34)) (HJ.out _ _ _ hJs HB4.out) hpl
      obtain ⟨fn, tmps, assign, body, hy, hR⟩ := hy4
      unfold Cm.V Cm.L at hy
      unfold Cm.V
      dsimp only at hy ⊢
      gi_wp2
      refine hR.mono ?_
      have HO4 := Lib.hid (hst.out.2.2.1.below HB4.out)
      have HBs4 := Lib.hid (boxed_below hst.out.2.1 HB4.out)
      have hbsl := hst.out.2.1.lt
      have hobl := lt_of_heap hst.out.2.2.1.1
      have hvl : ∀ k, v.ownBlock = some k → k < wr.heap.size := hst.out.2.2.1.2
      have HW4 : Hid (Below n0 W (w2.alloc (.cells (Cm.L ⟨x0, x1, en, x3, x4, x5, x6, x7, x8⟩).toArray 34))) := hst.out.1.trans (HB4.out.mono (Nat.le_trans hn0W hst.out.1.size))
      have hvB := hst.out.2.2.2
      have hz4 : (w2.alloc (.cells (Cm.L ⟨x0, x1, en, x3, x4, x5, x6, x7, x8⟩).toArray 34)).heap.size = w2.heap.size + 1 := by simp
      have HZ := Lib.hid hz4
      clear hz4 hR hy
      rintro e W3 (⟨rfl, hJ3, hk3⟩ | ⟨rfl, hJx3⟩)
      · obtain ⟨v3, ho3, hm3, hc3⟩ := hk3.out v HO4.out
        have HBs3 : Hid (Boxed W3 Bs 22 (.slice A nb cb)) := hc3 Bs _ _ _ HBs4.out HOb.out hvB
        have HK3 : Hid (Bk W3 w2.heap.size 34 (Cm.L ⟨x0, x1, en, x3, x4, x5, x6, x7, x8⟩)) := hc3 _ _ _ _ HK4.out (by omega) (fun e => by have := hvl _ e; omega)
        have HB3 : Hid (Below n0 W W3) := HW4.out.trans hk3.bel
        have HV3 : Hid (v3.ownBlock ≠ some Bs) := by
          unfold Hid
          rcases hm3 with e | e
          · rw [e]; exact hvB
          · intro h; have := e _ h; rw [HZ.out] at this; omega
        have HO3 := Lib.hid ho3
        have c2 : W3.cell? ⟨w2.heap.size, 2, none⟩ = some (.int .i64 (en : Int)) := (HK3.out.cell 2).trans rfl
        clear hc3 hm3 hk3 ho3 hvl hvB
        gi_wp2
        go_roundw
        case rel => exact ⟨_, en, v3, rfl, HI2, hJ3, HB3.out, HBs3.out, HO3.out, HV3.out⟩
        case measure => simp [intOf]; omega
      · gi_wp2
        refine bodyPost_ret (results_none rfl _ _ _) rfl ?_
        exact ⟨⟨_, rfl⟩, .inr ⟨_, trivial, hJx3⟩⟩
    · have hal : a = L := by have := hI.out.le; omega
      have hnx := next_out A nb cb (a : Int) wr hc HM.out (by have := HL.out; omega)
      have HNx := Lib.hid hnx
      have HP : Hid (pre = parseC l L) := (hal ▸ hI.out).done
      clear hnx hal
      gi_wp2_with fail
      refine ⟨trivial, ((callsIn_wide (n := _)).2 HNx.out).mono ?_⟩
      rintro e w2 ⟨rfl, hb2⟩
      have HJ4 : Hid (J pre (w2.alloc (.cells zeroC.L.toArray 34))) := HJ.out _ _ _ hJs (hb2.alloc hb2.size _)
      unfold zeroC Cm.V
      dsimp only
      gi_wp2
      refine ⟨fun _ h => (by cases h), ?_⟩
      gi_wp2
      refine bodyPost_ret (results_none rfl _ _ _) rfl ?_
      exact ⟨⟨_, rfl⟩, .inl ⟨pre, HP.out, HJ4.out⟩⟩
end Go.Proofs.YtkcdgoohchkkaaaDoor
