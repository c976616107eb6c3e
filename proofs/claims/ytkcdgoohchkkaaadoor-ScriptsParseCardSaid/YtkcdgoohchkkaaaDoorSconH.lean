/-
  Package scripts: bytes; the document's Bytes. Condition: none.
-/
import Derived.Test.YtkcdgoohchkkaaaDoorSconG
set_option linter.unusedSimpArgs false
namespace Go.Proofs.YtkcdgoohchkkaaaDoor
open Go Go.RowKit
/-- A number as a byte. -/
def u8W (x : Int) : Int := IntKind.u8.wrap x
theorem u8W_eq (x : Int) : u8W x = x % 256 := IntKind.wrap_u8' x
/-- The bytes of a command. -/
def bytesC (c : Cm) : List Int :=
  if c.kd = 1 then [u8W c.pl] else if c.kd = 3 then [u8W (c.kd + 126), u8W c.th] else if c.kd = 4 then [u8W (c.kd + 126), c.sc] else if c.kd = 5 ∨ c.kd = 6 then [u8W (c.kd + 126), u8W c.pl]
  else if c.kd = 9 then [u8W (c.kd + 126), u8W c.th, c.op, u8W c.ky, u8W c.vl] else [u8W (c.kd + 126)]
theorem kd_byte (kd : Int) : IntKind.u8.wrap (IntKind.u8.wrap (128 + kd) - 2) = u8W (kd + 126) := by
  unfold u8W; rw [IntKind.wrap_u8', IntKind.wrap_u8', IntKind.wrap_u8']; omega
/-- What bytes and Bytes leave. -/
def Made (w w' : World) (e : Ending) (l : List Int) : Prop := ∃ g : Nat, e = .returned (.slice (some ⟨g, 0, none⟩) l.length l.length) ∧ Bk w' g 5 (Us l) ∧ w.heap.size ≤ g ∧ Below w.heap.size w w'
theorem Made.mk2 {w : World} {l : List Int} {k : Nat} {o : Obj} (hk : l.length = k) {cs : Array Value} (hc : cs = (Us l).toArray) : Made w ((w.alloc o).alloc (.cells cs 5)) (.returned (.slice (some ⟨w.heap.size + 1, 0, none⟩) k k)) l := by
  subst hk hc
  refine ⟨w.heap.size + 1, rfl, ?_, by omega, ((Below.refl _ _).alloc (Nat.le_refl _) _).alloc (by simp) _⟩
  have := Bk.made (w.alloc o) 5 (Us l)
  simpa using this
set_option maxRecDepth 100000 in
set_option maxHeartbeats 4000000 in
theorem bytes_any (c : Cm) (w : World) (h0 : 0 ≤ c.kd) (h1 : c.kd < 256) (h2 : 0 ≤ c.op) (h3 : c.op < 256) : Calls Tryd.prog 31 #[c.V] w fun e w' => Made w w' e (bytesC c) := by
  obtain ⟨kd, fr, tt, pl, th, sc, op, ky, vl⟩ := c
  unfold Cm.V
  dsimp only at h0 h1 h2 h3 ⊢
  have hkw := kd_byte kd
  by_cases e1 : kd = 1
  · subst e1
    rw [show bytesC ⟨1, fr, tt, pl, th, sc, op, ky, vl⟩ = [u8W pl] from rfl]
    clear hkw
    have wp : IntKind.u8.wrap pl = u8W pl := rfl
    go_enter Tryd.func31, Tryd.ntmps31
    go_wp2
    go_ret
    refine Made.mk2 ?_ ?_ <;> rfl
  · by_cases e3 : kd = 3
    · subst e3
      rw [show bytesC ⟨3, fr, tt, pl, th, sc, op, ky, vl⟩ = [129, u8W th] from rfl]
      clear hkw e1
      have wt : IntKind.u8.wrap th = u8W th := rfl
      go_enter Tryd.func31, Tryd.ntmps31
      go_wp2
      go_ret
      refine Made.mk2 ?_ ?_ <;> rfl
    · by_cases e4 : kd = 4
      · subst e4
        rw [show bytesC ⟨4, fr, tt, pl, th, sc, op, ky, vl⟩ = [130, sc] from rfl]
        clear hkw e1 e3
        go_enter Tryd.func31, Tryd.ntmps31
        go_wp2
        go_ret
        refine Made.mk2 ?_ ?_ <;> rfl
      · by_cases e5 : kd = 5
        · subst e5
          rw [show bytesC ⟨5, fr, tt, pl, th, sc, op, ky, vl⟩ = [131, u8W pl] from rfl]
          clear hkw e1 e3 e4
          have wp : IntKind.u8.wrap pl = u8W pl := rfl
          go_enter Tryd.func31, Tryd.ntmps31
          go_wp2
          go_ret
          refine Made.mk2 ?_ ?_ <;> rfl
        · by_cases e6 : kd = 6
          · subst e6
            rw [show bytesC ⟨6, fr, tt, pl, th, sc, op, ky, vl⟩ = [132, u8W pl] from rfl]
            clear hkw e1 e3 e4 e5
            have wp : IntKind.u8.wrap pl = u8W pl := rfl
            go_enter Tryd.func31, Tryd.ntmps31
            go_wp2
            go_ret
            refine Made.mk2 ?_ ?_ <;> rfl
          · by_cases e9 : kd = 9
            · subst e9
              rw [show bytesC ⟨9, fr, tt, pl, th, sc, op, ky, vl⟩ = [135, u8W th, op, u8W ky, u8W vl] from rfl]
              clear hkw e1 e3 e4 e5 e6
              have wt : IntKind.u8.wrap th = u8W th := rfl
              have wk : IntKind.u8.wrap ky = u8W ky := rfl
              have wv : IntKind.u8.wrap vl = u8W vl := rfl
              go_enter Tryd.func31, Tryd.ntmps31
              go_wp2
              go_ret
              refine Made.mk2 ?_ ?_ <;> rfl
            · have HB : Hid (bytesC ⟨kd, fr, tt, pl, th, sc, op, ky, vl⟩ = [u8W (kd + 126)]) := by unfold Hid; simp [bytesC, e1, e3, e4, e5, e6, e9]
              rw [HB.out]
              have q1 : (kd == 1) = false := by simp [e1]
              have q3 : (kd == 3) = false := by simp [e3]
              have q4 : (kd == 4) = false := by simp [e4]
              have q5 : (kd == 5) = false := by simp [e5]
              have q6 : (kd == 6) = false := by simp [e6]
              have q9 : (kd == 9) = false := by simp [e9]
              clear e1 e3 e4 e5 e6 e9
              go_enter Tryd.func31, Tryd.ntmps31
              go_wp2
              go_ret
              refine Made.mk2 ?_ ?_
              · rfl
              · first | rfl | (show #[Value.int .u8 _] = #[Value.int .u8 (u8W (kd + 126))]; rw [u8W_eq, show (128 + kd - 2) % 256 = (kd + 126) % 256 by omega])
set_option maxRecDepth 100000 in
set_option maxHeartbeats 4000000 in
theorem refBytes_any (c : Cm) (w : World) (h0 : 0 ≤ c.kd) (h1 : c.kd < 256) (h2 : 0 ≤ c.op) (h3 : c.op < 256) : Calls Tryd.prog 30 #[c.DV] w fun e w' => Made w w' e (bytesC c) := by
  obtain ⟨kd, fr, tt, pl, th, sc, op, ky, vl⟩ := c
  unfold Cm.DV
  dsimp only at h0 h1 h2 h3 ⊢
  have hop : IntKind.u8.wrap op = op := by rw [IntKind.wrap_u8']; omega
  have hkw : IntKind.u8.wrap (kd + 126) = u8W (kd + 126) := rfl
  by_cases e1 : kd = 1
  · subst e1
    rw [show bytesC ⟨1, fr, tt, pl, th, sc, op, ky, vl⟩ = [u8W pl] from rfl]
    clear hkw
    have wp : IntKind.u8.wrap pl = u8W pl := rfl
    go_enter Tryd.func30, Tryd.ntmps30
    go_wp2
    go_ret
    refine Made.mk2 ?_ ?_ <;> rfl
  · by_cases e3 : kd = 3
    · subst e3
      rw [show bytesC ⟨3, fr, tt, pl, th, sc, op, ky, vl⟩ = [129, u8W th] from rfl]
      clear hkw e1
      have wt : IntKind.u8.wrap th = u8W th := rfl
      go_enter Tryd.func30, Tryd.ntmps30
      go_wp2
      go_ret
      refine Made.mk2 ?_ ?_ <;> rfl
    · by_cases e4 : kd = 4
      · subst e4
        rw [show bytesC ⟨4, fr, tt, pl, th, sc, op, ky, vl⟩ = [130, sc] from rfl]
        clear hkw e1 e3
        go_enter Tryd.func30, Tryd.ntmps30
        go_wp2
        go_ret
        refine Made.mk2 ?_ ?_ <;> rfl
      · by_cases e5 : kd = 5
        · subst e5
          rw [show bytesC ⟨5, fr, tt, pl, th, sc, op, ky, vl⟩ = [131, u8W pl] from rfl]
          clear hkw e1 e3 e4
          have wp : IntKind.u8.wrap pl = u8W pl := rfl
          go_enter Tryd.func30, Tryd.ntmps30
          go_wp2
          go_ret
          refine Made.mk2 ?_ ?_ <;> rfl
        · by_cases e6 : kd = 6
          · subst e6
            rw [show bytesC ⟨6, fr, tt, pl, th, sc, op, ky, vl⟩ = [132, u8W pl] from rfl]
            clear hkw e1 e3 e4 e5
            have wp : IntKind.u8.wrap pl = u8W pl := rfl
            go_enter Tryd.func30, Tryd.ntmps30
            go_wp2
            go_ret
            refine Made.mk2 ?_ ?_ <;> rfl
          · by_cases e9 : kd = 9
            · subst e9
              rw [show bytesC ⟨9, fr, tt, pl, th, sc, op, ky, vl⟩ = [135, u8W th, op, u8W ky, u8W vl] from rfl]
              clear hkw e1 e3 e4 e5 e6
              have wt : IntKind.u8.wrap th = u8W th := rfl
              have wk : IntKind.u8.wrap ky = u8W ky := rfl
              have wv : IntKind.u8.wrap vl = u8W vl := rfl
              go_enter Tryd.func30, Tryd.ntmps30
              go_wp2
              go_ret
              refine Made.mk2 ?_ ?_ <;> rfl
            · have HB : Hid (bytesC ⟨kd, fr, tt, pl, th, sc, op, ky, vl⟩ = [u8W (kd + 126)]) := by unfold Hid; simp [bytesC, e1, e3, e4, e5, e6, e9]
              rw [HB.out]
              have q1 : (kd == 1) = false := by simp [e1]
              have q3 : (kd == 3) = false := by simp [e3]
              have q4 : (kd == 4) = false := by simp [e4]
              have q5 : (kd == 5) = false := by simp [e5]
              have q6 : (kd == 6) = false := by simp [e6]
              have q9 : (kd == 9) = false := by simp [e9]
              clear e1 e3 e4 e5 e6 e9
              go_enter Tryd.func30, Tryd.ntmps30
              go_wp2
              go_ret
              refine Made.mk2 ?_ ?_
              · rfl
              · first | rfl | (show #[Value.int .u8 _] = #[Value.int .u8 (u8W (kd + 126))]; rw [u8W_eq, show (128 + kd - 2) % 256 = (kd + 126) % 256 by omega])
end Go.Proofs.YtkcdgoohchkkaaaDoor
