/-
  phases.Next, phases.Begin. Condition: the table of phases holds what the program's text lays (Tabs).
-/
import Derived.Test.YtffjllknnnkbhaaDoorPhsB
set_option linter.unusedSimpArgs false
namespace Go.Proofs.YtffjllknnnkbhaaDoor
open Go Go.RowKit
set_option maxHeartbeats 2000000 in
theorem next_any (p o n m : Nat) (pi oi ni mi : Int) (ep : pi = p) (eo : oi = o) (en : ni = n) (em : mi = m) (w : World) (ht : Tabs w) (hp : p < 4) (ho : o < 256) (hn : n < 256) (hmm : m < 281474976710656) (h0 : p ≠ 0) (hm : mayP p o n = true) :
    Calls Tryd.prog 10 #[.agg #[.int .u8 pi, .int .u8 oi, .int .u8 ni, .int .u64 mi]] w fun e w' =>
      e = .returned (.tuple #[pwA (nxT p) (if p = 3 then n else o) (if p = 3 then 0 else n) ((m + 1) % 281474976710656), .bool true]) ∧ Below w.heap.size w w' := by
  subst ep eo en em
  have hsz := ht.size
  have HM := Lib.hid hm
  have HB : Hid (Below w.heap.size w ((w.alloc (.cells [Value.int .u8 (p : Int), .int .u8 (o : Int), .int .u8 (n : Int), .int .u64 (m : Int)].toArray 27)).alloc (.cells [Value.int .u8 0, .int .u8 0, .int .u8 0, .int .u64 0].toArray 27))) := ((Below.refl _ _).alloc (Nat.le_refl _) _).alloc (by simp) _
  have HK : Hid (Bk ((w.alloc (.cells [Value.int .u8 (p : Int), .int .u8 (o : Int), .int .u8 (n : Int), .int .u64 (m : Int)].toArray 27)).alloc (.cells [Value.int .u8 0, .int .u8 0, .int .u8 0, .int .u64 0].toArray 27)) w.heap.size 27 [Value.int .u8 (p : Int), .int .u8 (o : Int), .int .u8 (n : Int), .int .u64 (m : Int)]) := (Bk.made _ _ _).alloc _
  have HK2 : Hid (Bk ((w.alloc (.cells [Value.int .u8 (p : Int), .int .u8 (o : Int), .int .u8 (n : Int), .int .u64 (m : Int)].toArray 27)).alloc (.cells [Value.int .u8 0, .int .u8 0, .int .u8 0, .int .u64 0].toArray 27)) (w.heap.size + 1) 27 [Value.int .u8 0, .int .u8 0, .int .u8 0, .int .u64 0]) := by
    have := Bk.made (w.alloc (.cells [Value.int .u8 (p : Int), .int .u8 (o : Int), .int .u8 (n : Int), .int .u64 (m : Int)].toArray 27)) 27 [Value.int .u8 0, .int .u8 0, .int .u8 0, .int .u64 0]
    rw [World.size_alloc] at this
    exact this
  have HTb := Lib.hid ht
  clear hm ht
  have hcast : (((m + 1) % 281474976710656 : Nat) : Int) = ((m : Int) + 1) % 281474976710656 := by omega
  have hc : p = 1 ∨ p = 2 ∨ p = 3 := by omega
  rcases hc with rfl | rfl | rfl
  · rw [if_neg (by decide), if_neg (by decide)]
    rw [show pwA (nxT 1) o n ((m + 1) % 281474976710656) = .agg #[.int .u8 ((nxT 1 : Nat) : Int), .int .u8 (o : Int), .int .u8 (n : Int), .int .u64 (((m : Int) + 1) % 281474976710656)] by unfold pwA; rw [hcast] <;> rfl]
    clear h0 hp hcast
    go_enter Tryd.func10, Tryd.ntmps10
    go_wp2_with fail
    generalize (w.alloc (.cells [Value.int .u8 _, .int .u8 (o : Int), .int .u8 (n : Int), .int .u64 (m : Int)].toArray 27)).alloc (.cells [Value.int .u8 0, .int .u8 0, .int .u8 0, .int .u64 0].toArray 27) = w0 at HB HK HK2 ⊢
    refine (may_any _ o n m _ _ _ _ rfl rfl rfl rfl _ (by decide) ho hn).mono ?_
    rintro e w2 ⟨rfl, hb2⟩
    rw [HM.out]
    have HB2 := Lib.hid (below_call HB.out hb2)
    have HKa : Hid (Bk w2 w.heap.size 27 _) := HK.out.below hb2 HK.out.size
    have HKb : Hid (Bk w2 (w.heap.size + 1) 27 _) := HK2.out.below hb2 HK2.out.size
    have HT2 : Hid (Tabs w2) := HTb.out.below HB2.out hsz
    have c0 := HKa.out.cell 0
    have c1 := HKa.out.cell 1
    have c2 := HKa.out.cell 2
    have c3 := HKa.out.cell 3
    simp only [List.getElem?_cons_zero, List.getElem?_cons_succ] at c0 c1 c2 c3
    clear hb2
    go_wp2_with fail
    refine (of_any _ o n m _ _ _ _ rfl rfl rfl rfl _ HT2.out (by decide)).mono ?_
    rintro e w3 ⟨rfl, hb3⟩
    clear c0 c1 c2 c3
    have HB3 := Lib.hid (below_call HB2.out hb3)
    have HKc : Hid (Bk w3 w.heap.size 27 _) := HKa.out.below hb3 HKa.out.size
    have HKd : Hid (Bk w3 (w.heap.size + 1) 27 _) := HKb.out.below hb3 HKb.out.size
    have c0 := HKc.out.cell 0
    have c1 := HKc.out.cell 1
    have c2 := HKc.out.cell 2
    have c3 := HKc.out.cell 3
    have d0 := HKd.out.cell 0
    have d1 := HKd.out.cell 1
    have d2 := HKd.out.cell 2
    have d3 := HKd.out.cell 3
    simp only [List.getElem?_cons_zero, List.getElem?_cons_succ] at c0 c1 c2 c3 d0 d1 d2 d3
    have g0 := HKc.out.free 0
    have g1 := HKc.out.free 1
    have g2 := HKc.out.free 2
    have g3 := HKc.out.free 3
    have f0 := HKd.out.free 0
    have f1 := HKd.out.free 1
    have f2 := HKd.out.free 2
    have f3 := HKd.out.free 3
    have hf := fld2
    clear hb3
    go_wp2
    refine bodyPost_ret (v := .tuple #[.agg #[.int .u8 ((nxT 1 : Nat) : Int), .int .u8 (o : Int), .int .u8 (n : Int), .int .u64 (((m : Int) + 1) % 281474976710656)], .bool true]) (by simp [results, Tryd.results10, go_sem, d0, d1, d2, d3]) rfl ⟨rfl, ?_⟩
    repeat (first | (with_reducible exact HB3.out) | (with_reducible refine Below.setCell ?_ (by simp) _) | (with_reducible refine Below.alloc ?_ (by simp) _))
  · rw [if_neg (by decide), if_neg (by decide)]
    rw [show pwA (nxT 2) o n ((m + 1) % 281474976710656) = .agg #[.int .u8 ((nxT 2 : Nat) : Int), .int .u8 (o : Int), .int .u8 (n : Int), .int .u64 (((m : Int) + 1) % 281474976710656)] by unfold pwA; rw [hcast] <;> rfl]
    clear h0 hp hcast
    go_enter Tryd.func10, Tryd.ntmps10
    go_wp2_with fail
    generalize (w.alloc (.cells [Value.int .u8 _, .int .u8 (o : Int), .int .u8 (n : Int), .int .u64 (m : Int)].toArray 27)).alloc (.cells [Value.int .u8 0, .int .u8 0, .int .u8 0, .int .u64 0].toArray 27) = w0 at HB HK HK2 ⊢
    refine (may_any _ o n m _ _ _ _ rfl rfl rfl rfl _ (by decide) ho hn).mono ?_
    rintro e w2 ⟨rfl, hb2⟩
    rw [HM.out]
    have HB2 := Lib.hid (below_call HB.out hb2)
    have HKa : Hid (Bk w2 w.heap.size 27 _) := HK.out.below hb2 HK.out.size
    have HKb : Hid (Bk w2 (w.heap.size + 1) 27 _) := HK2.out.below hb2 HK2.out.size
    have HT2 : Hid (Tabs w2) := HTb.out.below HB2.out hsz
    have c0 := HKa.out.cell 0
    have c1 := HKa.out.cell 1
    have c2 := HKa.out.cell 2
    have c3 := HKa.out.cell 3
    simp only [List.getElem?_cons_zero, List.getElem?_cons_succ] at c0 c1 c2 c3
    clear hb2
    go_wp2_with fail
    refine (of_any _ o n m _ _ _ _ rfl rfl rfl rfl _ HT2.out (by decide)).mono ?_
    rintro e w3 ⟨rfl, hb3⟩
    clear c0 c1 c2 c3
    have HB3 := Lib.hid (below_call HB2.out hb3)
    have HKc : Hid (Bk w3 w.heap.size 27 _) := HKa.out.below hb3 HKa.out.size
    have HKd : Hid (Bk w3 (w.heap.size + 1) 27 _) := HKb.out.below hb3 HKb.out.size
    have c0 := HKc.out.cell 0
    have c1 := HKc.out.cell 1
    have c2 := HKc.out.cell 2
    have c3 := HKc.out.cell 3
    have d0 := HKd.out.cell 0
    have d1 := HKd.out.cell 1
    have d2 := HKd.out.cell 2
    have d3 := HKd.out.cell 3
    simp only [List.getElem?_cons_zero, List.getElem?_cons_succ] at c0 c1 c2 c3 d0 d1 d2 d3
    have g0 := HKc.out.free 0
    have g1 := HKc.out.free 1
    have g2 := HKc.out.free 2
    have g3 := HKc.out.free 3
    have f0 := HKd.out.free 0
    have f1 := HKd.out.free 1
    have f2 := HKd.out.free 2
    have f3 := HKd.out.free 3
    have hf := fld2
    clear hb3
    go_wp2
    refine bodyPost_ret (v := .tuple #[.agg #[.int .u8 ((nxT 2 : Nat) : Int), .int .u8 (o : Int), .int .u8 (n : Int), .int .u64 (((m : Int) + 1) % 281474976710656)], .bool true]) (by simp [results, Tryd.results10, go_sem, d0, d1, d2, d3]) rfl ⟨rfl, ?_⟩
    repeat (first | (with_reducible exact HB3.out) | (with_reducible refine Below.setCell ?_ (by simp) _) | (with_reducible refine Below.alloc ?_ (by simp) _))
  · rw [if_pos rfl, if_pos rfl]
    rw [show pwA (nxT 3) n 0 ((m + 1) % 281474976710656) = .agg #[.int .u8 ((nxT 3 : Nat) : Int), .int .u8 (n : Int), .int .u8 0, .int .u64 (((m : Int) + 1) % 281474976710656)] by unfold pwA; rw [hcast] <;> rfl]
    clear h0 hp hcast
    go_enter Tryd.func10, Tryd.ntmps10
    go_wp2_with fail
    generalize (w.alloc (.cells [Value.int .u8 _, .int .u8 (o : Int), .int .u8 (n : Int), .int .u64 (m : Int)].toArray 27)).alloc (.cells [Value.int .u8 0, .int .u8 0, .int .u8 0, .int .u64 0].toArray 27) = w0 at HB HK HK2 ⊢
    refine (may_any _ o n m _ _ _ _ rfl rfl rfl rfl _ (by decide) ho hn).mono ?_
    rintro e w2 ⟨rfl, hb2⟩
    rw [HM.out]
    have HB2 := Lib.hid (below_call HB.out hb2)
    have HKa : Hid (Bk w2 w.heap.size 27 _) := HK.out.below hb2 HK.out.size
    have HKb : Hid (Bk w2 (w.heap.size + 1) 27 _) := HK2.out.below hb2 HK2.out.size
    have HT2 : Hid (Tabs w2) := HTb.out.below HB2.out hsz
    have c0 := HKa.out.cell 0
    have c1 := HKa.out.cell 1
    have c2 := HKa.out.cell 2
    have c3 := HKa.out.cell 3
    simp only [List.getElem?_cons_zero, List.getElem?_cons_succ] at c0 c1 c2 c3
    clear hb2
    go_wp2_with fail
    refine (of_any _ o n m _ _ _ _ rfl rfl rfl rfl _ HT2.out (by decide)).mono ?_
    rintro e w3 ⟨rfl, hb3⟩
    clear c0 c1 c2 c3
    have HB3 := Lib.hid (below_call HB2.out hb3)
    have HKc : Hid (Bk w3 w.heap.size 27 _) := HKa.out.below hb3 HKa.out.size
    have HKd : Hid (Bk w3 (w.heap.size + 1) 27 _) := HKb.out.below hb3 HKb.out.size
    have c0 := HKc.out.cell 0
    have c1 := HKc.out.cell 1
    have c2 := HKc.out.cell 2
    have c3 := HKc.out.cell 3
    have d0 := HKd.out.cell 0
    have d1 := HKd.out.cell 1
    have d2 := HKd.out.cell 2
    have d3 := HKd.out.cell 3
    simp only [List.getElem?_cons_zero, List.getElem?_cons_succ] at c0 c1 c2 c3 d0 d1 d2 d3
    have g0 := HKc.out.free 0
    have g1 := HKc.out.free 1
    have g2 := HKc.out.free 2
    have g3 := HKc.out.free 3
    have f0 := HKd.out.free 0
    have f1 := HKd.out.free 1
    have f2 := HKd.out.free 2
    have f3 := HKd.out.free 3
    have hf := fld2
    clear hb3
    go_wp2
    refine bodyPost_ret (v := .tuple #[.agg #[.int .u8 ((nxT 3 : Nat) : Int), .int .u8 (n : Int), .int .u8 0, .int .u64 (((m : Int) + 1) % 281474976710656)], .bool true]) (by simp [results, Tryd.results10, go_sem, d0, d1, d2, d3]) rfl ⟨rfl, ?_⟩
    repeat (first | (with_reducible exact HB3.out) | (with_reducible refine Below.setCell ?_ (by simp) _) | (with_reducible refine Below.alloc ?_ (by simp) _))
end Go.Proofs.YtffjllknnnkbhaaDoor
