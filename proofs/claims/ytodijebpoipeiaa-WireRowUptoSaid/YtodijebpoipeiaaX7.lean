/- Walk: spoil (a row of the call's own is turned). -/
import Derived.Test.YtodijebpoipeiaaX4
namespace Go.Proofs.Ytodijebpoipeiaa
open Go.RowKit
set_option linter.unusedVariables false
set_option linter.unusedSimpArgs false

def spoilL (l : List Int) : List Int := l.map fun x => 255 - x
/-- spoil, of a row of the call's own: nothing else turns. -/
theorem spoil_own (w : World) (g c : Nat) (l : List Int) (h : OwnAt w g l) (hb : Byt l) (hl : l.length ≤ 140737488355328) (hc : l.length ≤ c) :
    Calls Try.prog 24 #[.slice (some ⟨g, 0, none⟩) l.length c] w fun e w' => e = .returned (.tuple #[]) ∧ Mod (fun i => i = g) w w' := by
  have H0 := Lib.hid h
  have HB := Lib.hid hb
  clear h hb
  go_enter Try.func24, Try.ntmps24
  go_wp2_with fail
  go_loopw [2] (fun i wr => ∃ (k : Nat) (m : List Int), k ≤ l.length ∧ i = .int .i64 k ∧ m.length = l.length ∧ Byt m ∧ OwnAt wr g m ∧ Mod (fun i => i = g) w wr) (fun i _ => l.length - (intOf i).toNat)
  case atStart => exact ⟨0, l, Nat.zero_le _, rfl, rfl, HB.out, H0.out, Mod.refl _ _⟩
  case round =>
    obtain ⟨k, m, hk, rfl, hml, hmb, hO, hm⟩ := hrel
    have HM := Lib.hid hm
    by_cases hlt : k < l.length
    · have hkm : k < m.length := by omega
      have h2 : (k : Int) < (l.length : Int) := by omega
      have ha := hO.cell k hkm
      have hf := hO.free k
      have hx := hmb m[k] (List.getElem_mem hkm)
      obtain ⟨x, hxx⟩ : ∃ x, x = m[k] := ⟨_, rfl⟩
      rw [← hxx] at ha hx
      obtain ⟨hx0, hx1⟩ := hx
      have HS := Lib.hid (hO.set_ k hkm (255 - x))
      have HML := Lib.hid hml
      have HMB := Lib.hid (show Byt (m.set k (255 - x)) from fun y hy => by rcases List.mem_or_eq_of_mem_set hy with h | h; exact hmb y h; omega)
      clear hm hO hml hmb hxx
      go_wp2_with fail
      go_roundw
      case rel => exact ⟨k + 1, m.set k (255 - x), by omega, by go_num, by rw [List.length_set]; exact HML.out, HMB.out, HS.out, HM.out.setCell (.inl rfl) _⟩
      case measure => simp [intOf]; omega
    · have h2 : ¬ (k : Int) < (l.length : Int) := by omega
      clear hm hO hml hmb
      go_wp2_with fail
      go_end0
      exact ⟨rfl, HM.out⟩
end Go.Proofs.Ytodijebpoipeiaa
