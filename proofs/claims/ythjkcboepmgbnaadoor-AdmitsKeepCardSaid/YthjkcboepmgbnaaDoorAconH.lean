/-
  Package admits: switches. Condition: the state's numbers are of their kinds.
-/
import Derived.Test.YthjkcboepmgbnaaDoorAconG
set_option linter.unusedSimpArgs false
set_option linter.unusedVariables false
namespace Go.Proofs.YthjkcboepmgbnaaDoor
open Go Go.RowKit
theorem ent17 : ∀ args w, (callFunc 17 args).run Tryd.prog w = .ok (.enter 17 args) w := fun args w => by go_simp
theorem ent19 : ∀ args w, (callFunc 19 args).run Tryd.prog w = .ok (.enter 19 args) w := fun args w => by go_simp
theorem ent21 : ∀ args w, (callFunc 21 args).run Tryd.prog w = .ok (.enter 21 args) w := fun args w => by go_simp
theorem ent22 : ∀ args w, (callFunc 22 args).run Tryd.prog w = .ok (.enter 22 args) w := fun args w => by go_simp
theorem ent23 : ∀ args w, (callFunc 23 args).run Tryd.prog w = .ok (.enter 23 args) w := fun args w => by go_simp
theorem ent26 : ∀ args w, (callFunc 26 args).run Tryd.prog w = .ok (.enter 26 args) w := fun args w => by go_simp
theorem ent27 : ∀ args w, (callFunc 27 args).run Tryd.prog w = .ok (.enter 27 args) w := fun args w => by go_simp
theorem ent28 : ∀ args w, (callFunc 28 args).run Tryd.prog w = .ok (.enter 28 args) w := fun args w => by go_simp
theorem ent29 : ∀ args w, (callFunc 29 args).run Tryd.prog w = .ok (.enter 29 args) w := fun args w => by go_simp
theorem ent30 : ∀ args w, (callFunc 30 args).run Tryd.prog w = .ok (.enter 30 args) w := fun args w => by go_simp
theorem ent31 : ∀ args w, (callFunc 31 args).run Tryd.prog w = .ok (.enter 31 args) w := fun args w => by go_simp
theorem ent32 : ∀ args w, (callFunc 32 args).run Tryd.prog w = .ok (.enter 32 args) w := fun args w => by go_simp
theorem ent37 : ∀ args w, (callFunc 37 args).run Tryd.prog w = .ok (.enter 37 args) w := fun args w => by go_simp
theorem ent38 : ∀ args w, (callFunc 38 args).run Tryd.prog w = .ok (.enter 38 args) w := fun args w => by go_simp
theorem ent39 : ∀ args w, (callFunc 39 args).run Tryd.prog w = .ok (.enter 39 args) w := fun args w => by go_simp
/-- first over a list that was just made. -/
theorem first_made (ws : List Ask) (W : World) (n : Nat) (hl : ws.length = n) (hn : n ≤ 3) (hF : ∀ x ∈ ws, x.pays (W.alloc (.cells (AskL ws).toArray 55))) :
    Calls Tryd.prog 16 #[.slice (some ⟨W.heap.size, 0, none⟩) n n] (W.alloc (.cells (AskL ws).toArray 55)) fun e w' => e = .returned (.int .u8 (firstC ws)) ∧ Below W.heap.size W w' := by
  have hk := Bk.made W 55 (AskL ws)
  have hS : Sl (W.alloc (.cells (AskL ws).toArray 55)) (W.alloc (.cells (AskL ws).toArray 55)).heap.size 2 (some ⟨W.heap.size, 0, none⟩) n (AskL ws) :=
    ⟨by rw [AskL_len, hl], fun _ => ⟨_, 0, rfl, hk.size, fun j u hu => by rw [Nat.zero_add]; exact (hk.cell j).trans hu⟩⟩
  refine (first_any ws _ n n _ hS hF hn).mono ?_
  rintro e w' ⟨he, hb⟩
  exact ⟨he, below_call ((Below.refl _ _).alloc (Nat.le_refl _) _) hb⟩
def switchC (s : St) (tt : Int) : Int :=
  if s.ph = 3 ∧ s.nw = tt then 0 else if ¬ s.ph = 0 then 7 else if s.ol = tt then 6 else if tt = 1 ∧ s.fl = true then 8 else 0
def swAsks (s : St) (tt : Int) (g1 g2 g3 : Nat) : List Ask :=
  [⟨7, 37, #[], #[.pointer (some ⟨g3, 0, none⟩)], !decide (s.ph = 0)⟩, ⟨6, 38, #[], #[.pointer (some ⟨g3, 0, none⟩), .pointer (some ⟨g2, 0, none⟩)], decide (s.ol = tt)⟩,
   ⟨8, 39, #[], #[.pointer (some ⟨g2, 0, none⟩), .pointer (some ⟨g1, 0, none⟩)], decide (tt = 1) && s.fl⟩]
theorem swAsks_C (s : St) (tt : Int) (g1 g2 g3 : Nat) (h : ¬ (s.ph = 3 ∧ s.nw = tt)) : firstC (swAsks s tt g1 g2 g3) = switchC s tt := by
  unfold switchC
  rw [if_neg h]
  simp only [swAsks, firstC]
  by_cases h1 : s.ph = 0 <;> by_cases h2 : s.ol = tt <;> by_cases h3 : tt = 1 <;> cases h4 : s.fl <;> simp [h1, h2, h3]
theorem swAsks_pay (s : St) (tt : Int) (h : s.ok) (W : World) (g1 g2 g3 : Nat) (hs : Bk W g1 30 s.C) (ht : Bk W g2 23 [.int .u8 tt]) (hp : Bk W g3 26 [.int .u8 s.ph, .int .u8 s.ol, .int .u8 s.nw, .int .u64 s.nu]) :
    ∀ x ∈ swAsks s tt g1 g2 g3, x.pays W := by
  intro x hx
  simp only [swAsks, List.mem_cons, List.not_mem_nil, or_false] at hx
  rcases hx with rfl | rfl | rfl
  · exact ⟨ent37, fun w' hb => ask37 (((hp.below hb hp.size).cell 0).trans rfl)⟩
  · exact ⟨ent38, fun w' hb => ask38 (((hp.below hb hp.size).cell 1).trans rfl) (((ht.below hb ht.size).cell 0).trans rfl)⟩
  · exact ⟨ent39, fun w' hb => ask39 (((ht.below hb ht.size).cell 0).trans rfl) (((hs.below hb hs.size).cell 70).trans h.c_fl)⟩
theorem sw_first (s : St) (tt : Int) (h : s.ok) (W : World) (g1 g2 g3 : Nat) (hs : Bk W g1 30 s.C) (ht : Bk W g2 23 [.int .u8 tt]) (hp : Bk W g3 26 [.int .u8 s.ph, .int .u8 s.ol, .int .u8 s.nw, .int .u64 s.nu]) :
    Calls Tryd.prog 16 #[.slice (some ⟨W.heap.size, 0, none⟩) 3 3] (W.alloc (.cells #[.int .u8 7, .func (.func 37) #[] #[.pointer (some ⟨g3, 0, none⟩)], .int .u8 6, .func (.func 38) #[] #[.pointer (some ⟨g3, 0, none⟩), .pointer (some ⟨g2, 0, none⟩)],
      .int .u8 8, .func (.func 39) #[] #[.pointer (some ⟨g2, 0, none⟩), .pointer (some ⟨g1, 0, none⟩)]] 55)) fun e w' => e = .returned (.int .u8 (firstC (swAsks s tt g1 g2 g3))) ∧ Below W.heap.size W w' :=
  first_made (swAsks s tt g1 g2 g3) W 3 rfl (Nat.le_refl _) (swAsks_pay s tt h _ g1 g2 g3 (hs.alloc _) (ht.alloc _) (hp.alloc _))
set_option maxHeartbeats 4000000 in
theorem switches_any (s : St) (tt : Int) (h : s.ok) (w : World) : Calls Tryd.prog 25 #[s.V, .int .u8 tt] w fun e w' => e = .returned (.int .u8 (switchC s tt)) ∧ Below w.heap.size w w' := by
  unfold St.V
  obtain ⟨m, hm⟩ : ∃ m, m = switchC s tt := ⟨_, rfl⟩
  rw [← hm]
  have e0 : s.C[0]? = some (.int .u8 s.ph) := St.c_ph
  have e1 : s.C[1]? = some (.int .u8 s.ol) := St.c_ol
  have e2 : s.C[2]? = some (.int .u8 s.nw) := St.c_nw
  have e3 : s.C[3]? = some (.int .u64 s.nu) := St.c_nu
  have HO := Lib.hid h
  have HB : Hid (Below w.heap.size w (((w.alloc (.cells s.C.toArray 30)).alloc (.cells #[.int .u8 tt] 23)).alloc (.cells #[.int .u8 s.ph, .int .u8 s.ol, .int .u8 s.nw, .int .u64 s.nu] 26))) :=
    (((Below.refl _ _).alloc (Nat.le_refl _) _).alloc (by simp) _).alloc (by simp; omega) _
  have HF := Lib.hid ((sw_first s tt h (((w.alloc (.cells s.C.toArray 30)).alloc (.cells #[.int .u8 tt] 23)).alloc (.cells #[.int .u8 s.ph, .int .u8 s.ol, .int .u8 s.nw, .int .u64 s.nu] 26)) w.heap.size (w.heap.size + 1) (w.heap.size + 1 + 1)
    (((Bk.made w 30 s.C).alloc _).alloc _) ((by have := Bk.made (w.alloc (.cells s.C.toArray 30)) 23 [.int .u8 tt]; simpa using this : Bk ((w.alloc (.cells s.C.toArray 30)).alloc (.cells #[.int .u8 tt] 23)) (w.heap.size + 1) 23 [.int .u8 tt]).alloc _)
    (by have := Bk.made ((w.alloc (.cells s.C.toArray 30)).alloc (.cells #[.int .u8 tt] 23)) 26 [.int .u8 s.ph, .int .u8 s.ol, .int .u8 s.nw, .int .u64 s.nu]; simpa using this)).mono (fun (e : Ending) (w' : World) (hh : _ ∧ Below _ _ w') => (⟨hh.1, below_call HB.out hh.2⟩ : e = .returned (.int .u8 (firstC (swAsks s tt w.heap.size (w.heap.size + 1) (w.heap.size + 1 + 1)))) ∧ Below w.heap.size w w')))
  have hsz : (((w.alloc (.cells s.C.toArray 30)).alloc (.cells #[.int .u8 tt] 23)).alloc (.cells #[.int .u8 s.ph, .int .u8 s.ol, .int .u8 s.nw, .int .u64 s.nu] 26)).heap.size = w.heap.size + 1 + 1 + 1 := by simp
  rw [hsz] at HF
  have HC := Lib.hid (swAsks_C s tt w.heap.size (w.heap.size + 1) (w.heap.size + 1 + 1))
  have HM := Lib.hid hm
  clear hm h hsz
  generalize swAsks s tt w.heap.size (w.heap.size + 1) (w.heap.size + 1 + 1) = asks at HF HC
  by_cases h3 : s.ph = 3
  · by_cases hn : s.nw = tt
    · have HE : Hid (m = 0) := by unfold Hid; rw [HM.out]; unfold switchC; rw [if_pos ⟨h3, hn⟩]
      rw [h3] at e0 HB
      rw [hn] at e2 HB
      clear HM HC HF h3 hn
      go_enter Tryd.func25, Tryd.ntmps25
      go_wp2
      go_ret
      exact ⟨ret_int HE.out.symm, HB.out⟩
    · have HE : Hid (m = firstC asks) := by unfold Hid; rw [HM.out, HC.out (fun h => hn h.2)]
      have q : (s.nw == tt) = false := by simp [hn]
      rw [h3] at e0 HB HF
      clear HM HC h3 hn
      go_enter Tryd.func25, Tryd.ntmps25
      go_wp2_with fail
      refine HF.out.mono ?_
      rintro e w1 ⟨rfl, hb⟩
      rw [← HE.out]
      have HB1 := Lib.hid hb
      clear hb HB HF
      go_wp2
      go_ret
      exact ⟨rfl, HB1.out⟩
  · have HE : Hid (m = firstC asks) := by unfold Hid; rw [HM.out, HC.out (fun h => h3 h.1)]
    have q : (s.ph == 3) = false := by simp [h3]
    clear HM HC h3
    go_enter Tryd.func25, Tryd.ntmps25
    go_wp2_with fail
    refine HF.out.mono ?_
    rintro e w1 ⟨rfl, hb⟩
    rw [← HE.out]
    have HB1 := Lib.hid hb
    clear hb HB HF
    go_wp2
    go_ret
    exact ⟨rfl, HB1.out⟩
end Go.Proofs.YthjkcboepmgbnaaDoor
