/- The coder that writes: longs. -/
import Derived.Test.YtnphnaggamfoiaaD2
namespace Go.Proofs.Ytnphnaggamfoiaa
open Go.RowKit
set_option maxRecDepth 20000
set_option linter.unusedVariables false
set_option linter.unusedSimpArgs false

def putsL (xs : List Int) (L : List (Nat × Int)) : List Int := L.foldl (fun a x => Wr.putL a x.2 7) xs
theorem putsL_len (L : List (Nat × Int)) : ∀ xs, (putsL xs L).length ≤ xs.length + 8 * L.length := by
  induction L with
  | nil => intro xs; simp [putsL]
  | cons x L ih =>
    intro xs
    have h1 := ih (Wr.putL xs x.2 7)
    have h2 := wputL_len xs x.2 7
    unfold putsL at h1 ⊢
    simp only [List.foldl_cons, List.length_cons]
    omega
theorem putsL_take (xs : List Int) (L : List (Nat × Int)) (k : Nat) (hk : k < L.length) : putsL xs (L.take (k + 1)) = Wr.putL (putsL xs (L.take k)) L[k].2 7 := by
  unfold putsL
  rw [List.take_succ_eq_append_getElem hk, List.foldl_append]
  rfl
def ptrs (g : Nat) (L : List (Nat × Int)) : List Value := L.map fun x => .pointer (some ⟨g, x.1, none⟩)
theorem ptrs_at (g : Nat) (L : List (Nat × Int)) (k : Nat) (hk : k < L.length) : (ptrs g L)[k]? = some (.pointer (some ⟨g, L[k].1, none⟩)) := by
  simp [ptrs, hk]

theorem wlongs_any {B : Nat} {K : Nat → Prop} {p : Nat} {xs : List Int} (g gl : Nat) (t tl : TypeId) (cs : Array Value) (L : List (Nat × Int)) (hL : ∀ x ∈ L, cs[x.1]? = some (.int .i64 x.2) ∧ x.2 < 9223372036854775808) (hn : L.length ≤ 100) (w : World) (h : Wr.WrIn B K w p xs)
    (hb : Blk w g t cs) (hs : Stay B K g) (hbl : Blk w gl tl (ptrs g L).toArray) (hsl : Stay B K gl) (hl : xs.length + 8 * L.length + 8 ≤ 140737488355328) :
    Calls Try.prog 76 #[wi p, .slice (some ⟨gl, 0, none⟩) L.length L.length] w (Wr.WDidIn B K p (putsL xs L) (.tuple #[]) w) := by
  have H := Lib.hid h
  have HC := Lib.hid (And.intro hb hs)
  have HD := Lib.hid (And.intro hbl hsl)
  have HL := Lib.hid (And.intro hL hl)
  have hmf := mkfn
  have hna := nil_wnumber p
  have lg := hb.lt
  have lgl := hbl.lt
  clear h hb hs hl hbl hsl hL
  go_enter Try.func76, Try.ntmps76
  go_wp2_with fail
  go_loopw [8] (fun i wr => ∃ k : Nat, k ≤ L.length ∧ i = .int .i64 k ∧ Wr.WrIn B K wr p (putsL xs (L.take k)) ∧ Mod (Wr.Stays B K) w wr) (fun i _ => L.length - (intOf i).toNat)
  case atStart => exact ⟨0, Nat.zero_le _, rfl, H.out, Mod.refl _ _⟩
  case round =>
    obtain ⟨k, hk, rfl, hw, hm⟩ := hrel
    have HW := Lib.hid hw
    have HM := Lib.hid hm
    have lw := hm.size
    clear hw hm
    by_cases hlt : k < L.length
    · have hlt2 : (k : Int) < (L.length : Int) := by omega
      have BL := Lib.hid (HD.out.1.kept HM.out HD.out.2.not)
      have BG := Lib.hid (HC.out.1.kept HM.out HC.out.2.not)
      have q0 : wr.cell? ⟨gl, k, none⟩ = some (.pointer (some ⟨g, L[k].1, none⟩)) := (BL.out.cell k).trans (by simpa using ptrs_at g L k hlt)
      have HX := Lib.hid (HL.out.1 L[k] (List.getElem_mem hlt))
      obtain ⟨o, ho⟩ : ∃ o, o = L[k].1 := ⟨_, rfl⟩
      obtain ⟨v, hv⟩ : ∃ v, v = L[k].2 := ⟨_, rfl⟩
      have HV := Lib.hid hv
      rw [← ho] at q0 HX
      rw [← hv] at HX
      clear ho hv
      go_wp2_with fail
      refine (wnum_any g o _ _ v 7 HX.out.2 _ HW.out BG.out HC.out.2 HX.out.1 (by have := HL.out.2; have := putsL_len (L.take k) xs; simp at this; omega)).mono ?_
      rintro e w1 ⟨rfl, hw, hm⟩
      have HW1 := Lib.hid hw
      have HM1 := Lib.hid (HM.out.trans hm (fun i hi => .inl hi))
      clear hw hm
      go_wp2_with fail
      go_roundw
      case rel => exact ⟨k + 1, by omega, by go_num, by rw [putsL_take xs L k hlt, ← HV.out]; exact HW1.out, HM1.out⟩
      case measure => simp [intOf]; omega
    · have hlt2 : ¬ (k : Int) < (L.length : Int) := by omega
      have e : k = L.length := by omega
      subst e
      go_wp2_with fail
      refine bodyPost_ret (v := .tuple #[]) (by simp [results, Try.results76, go_sem]) rfl ?_
      have hw := HW.out
      rw [List.take_length] at hw
      exact ⟨rfl, hw, HM.out⟩
end Go.Proofs.Ytnphnaggamfoiaa
