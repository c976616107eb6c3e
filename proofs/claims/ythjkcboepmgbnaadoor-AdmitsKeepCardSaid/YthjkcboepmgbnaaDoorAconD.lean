/-
  Package admits: the state's cells; what first answers, by its askers' contracts. Condition: none.
-/
import Derived.Test.YthjkcboepmgbnaaDoorAconC
import Derived.Laws.EntriesVeiled
import Derived.Deep.MidRow
set_option linter.unusedSimpArgs false
set_option linter.unusedVariables false
namespace Go.Proofs.YthjkcboepmgbnaaDoor
open Go Go.RowKit
/-- One asker: the refusal's number, the function value's parts, the answer. -/
structure Ask where
  r : Int
  fid : FuncId
  fst : Array Value
  cap : Array Value
  b : Bool
def Ask.f (x : Ask) : Value := .func (.func x.fid) x.fst x.cap
def Ask.L (x : Ask) : List Value := [.int .u8 x.r, x.f]
def AskL : List Ask → List Value
  | [] => []
  | x :: l => x.L ++ AskL l
def firstC : List Ask → Int
  | [] => 0
  | x :: l => if x.b then x.r else firstC l
def Ask.pays (x : Ask) (w : World) : Prop := (∀ args w, (callFunc x.fid args).run Tryd.prog w = .ok (.enter x.fid args) w) ∧ ∀ w', Below w.heap.size w w' → Calls Tryd.prog x.fid (x.fst ++ x.cap) w' fun e w'' => e = .returned (.bool x.b) ∧ Below w'.heap.size w' w''
theorem AskL_at : ∀ {l : List Ask} {k : Nat} {x : Ask}, l[k]? = some x → (AskL l)[k * 2]? = some (.int .u8 x.r) ∧ (AskL l)[k * 2 + 1]? = some x.f := by
  intro l
  induction l with
  | nil => intro k x h; simp at h
  | cons y l ih =>
    intro k x h
    cases k with
    | zero => simp at h; subst h; exact ⟨rfl, rfl⟩
    | succ k =>
      obtain ⟨h1, h2⟩ := ih (k := k) (x := x) (by simpa using h)
      rw [show (k + 1) * 2 = k * 2 + 2 by omega]
      exact ⟨h1, h2⟩
theorem AskL_len (l : List Ask) : (AskL l).length = l.length * 2 := by
  induction l with
  | nil => rfl
  | cons x l ih => show (AskL l).length + 2 = _; rw [ih, List.length_cons]; omega
theorem firstC_drop {l : List Ask} {k : Nat} {x : Ask} (h : l[k]? = some x) : firstC (l.drop k) = if x.b then x.r else firstC (l.drop (k + 1)) := by
  have hk : k < l.length := (List.getElem?_eq_some_iff.1 h).1
  rw [List.drop_eq_getElem_cons hk]
  have : l[k] = x := by rw [List.getElem?_eq_getElem hk] at h; exact Option.some.inj h
  rw [this]; rfl
set_option maxRecDepth 100000 in
set_option maxHeartbeats 4000000 in
theorem first_any (ws : List Ask) (A : Option Addr) (n c : Nat) (w : World) (hS : Sl w w.heap.size 2 A n (AskL ws)) (hF : ∀ x ∈ ws, x.pays w) (hn3 : n ≤ 3) :
    Calls Tryd.prog 16 #[.slice A n c] w fun e w' => e = .returned (.int .u8 (firstC ws)) ∧ Below w.heap.size w w' := by
  have hn : ws.length = n := by have := hS.1; rw [AskL_len] at this; omega
  obtain ⟨res, hres⟩ : ∃ r, r = firstC ws := ⟨_, rfl⟩
  rw [← hres]
  have HN := Lib.hid hn
  have HR := Lib.hid hres
  have HA : Hid (∀ k, k < n → ∃ b off x, A = some ⟨b, off, none⟩ ∧ b < w.heap.size ∧ ws[k]? = some x ∧ w.cell? ⟨b, off + k * 2, none⟩ = some (.int .u8 x.r) ∧ w.cell? ⟨b, off + k * 2 + 1, none⟩ = some x.f) := fun k hk => by
    obtain ⟨b, off, e, hb, hc⟩ := hS.at_ (by rw [AskL_len]; omega)
    have hk' : k < ws.length := by omega
    obtain ⟨h1, h2⟩ := AskL_at (List.getElem?_eq_getElem hk')
    exact ⟨b, off, _, e, hb, List.getElem?_eq_getElem hk', hc _ _ h1, hc _ _ h2⟩
  have HF := Lib.hid hF
  clear hS hF hn hres
  go_enter Tryd.func16, Tryd.ntmps16
  go_wp2
  go_loopw [7] (fun i wr => ∃ k : Nat, k ≤ n ∧ i = .int .i64 k ∧ Hid (Below w.heap.size w wr ∧ res = firstC (ws.drop k))) (fun i _ => n - (intOf i).toNat)
  case atStart => exact ⟨0, Nat.zero_le _, rfl, Below.refl _ _, HR.out⟩
  case round =>
    obtain ⟨k, hk, rfl, hst⟩ := hrel
    obtain ⟨wo, rfl⟩ : ∃ wo, wo = wr := ⟨_, rfl⟩
    by_cases hkn : k < n
    · obtain ⟨b, off, x, rfl, hb, hx, c0, c1⟩ := HA.out k hkn
      have d0 := (hst.out.1.cell (p := ⟨b, off + k * 2, none⟩) hb).trans c0
      have d1 := (hst.out.1.cell (p := ⟨b, off + k * 2 + 1, none⟩) hb).trans c1
      have HP := Lib.hid (HF.out x (List.mem_of_getElem? hx))
      have HX : Hid (res = if x.b then x.r else firstC (ws.drop (k + 1))) := by unfold Hid; rw [hst.out.2, firstC_drop hx]
      have r0 : (0 : Int) ≤ (k : Int) := by omega
      have r1 : (k : Int) < (n : Int) := by omega
      clear c0 c1 hx
      obtain ⟨r, fid, fs, cp, bb⟩ := x
      unfold Ask.f at d1
      dsimp only at d0 d1
      have eg : ∀ args w, (callFunc fid args).run Tryd.prog w = .ok (.enter fid args) w := HP.out.1
      have HG := Lib.hid HP.out.2
      have HB1 : Hid (Below wo.heap.size wo (wo.alloc (.cells [Value.int .u8 r, .func (.func fid) fs cp].toArray 55))) := (Below.refl _ _).alloc (Nat.le_refl _) _
      have HK1 := Lib.hid (Bk.made wo 55 [Value.int .u8 r, .func (.func fid) fs cp])
      go_wp2_with fail
      change Calls _ _ _ (wo.alloc (.cells [Value.int .u8 r, .func (.func fid) fs cp].toArray 55)) _
      generalize wo.alloc (.cells [Value.int .u8 r, .func (.func fid) fs cp].toArray 55) = w1 at HB1 HK1 ⊢
      refine (HG.out w1 (below_call hst.out.1 HB1.out)).mono ?_
      rintro e w2 ⟨rfl, hb2⟩
      have HB2 := Lib.hid (below_call (below_call hst.out.1 HB1.out) hb2)
      have HK2 := Lib.hid (HK1.out.below hb2 HK1.out.size)
      have c0 : w2.cell? ⟨wo.heap.size, 0, none⟩ = some (.int .u8 r) := (HK2.out.cell 0).trans rfl
      clear hb2 HK1 HB1 HP d0 d1
      cases bb with
      | true =>
        have HX' : Hid (res = r) := HX.out
        go_wp2
        go_ret
        exact ⟨ret_int HX'.out.symm, HB2.out⟩
      | false =>
        have HX' : Hid (res = firstC (ws.drop (k + 1))) := HX.out
        go_wp2
        go_roundw
        case rel => exact ⟨k + 1, by omega, by go_num, HB2.out, HX'.out⟩
        case measure => simp [intOf]; omega
    · obtain rfl : k = n := by omega
      have HX : Hid (res = 0) := by
        unfold Hid
        rw [hst.out.2, List.drop_eq_nil_of_le (by rw [HN.out]; exact Nat.le_refl _)]; rfl
      clear HA hkn
      go_wp2
      go_ret
      exact ⟨ret_int HX.out.symm, hst.out.1⟩
end Go.Proofs.YthjkcboepmgbnaaDoor
