/- The reference's relay: Take where there is one (under way). -/
import Derived.Test.YtdnbbjhickjnmaaR20
namespace Go.Proofs.Ytdnbbjhickjnmaa
open Go.RowKit
set_option maxRecDepth 20000
set_option linter.unusedVariables false
set_option linter.unusedSimpArgs false

/-- A row's first i elements, read through a slice of it. -/
theorem own_head {w : World} {A : Option Addr} {c : Nat} {l : List Item} (h : w.ownsRow 0 31 3 (.slice A l.length c) l.length (rowOf l)) (i : Nat) (hi : i ≤ l.length) : Rd w (fun k => (Value.slice A l.length c).ownBlock = some k) 3 (.slice A i c) i (rowOf (l.take i)) := by
  have h0 := Rd.of_own h
  have hc := h0.cap
  refine ⟨by rw [rowOf_length, List.length_take]; congr 1; omega, A, c, rfl, by omega, by omega, fun hn => ?_⟩
  obtain ⟨g, o, he, hs, hj⟩ := h0.some_ (by omega)
  refine ⟨g, o, he, hs, fun j u hu => hj j u ?_⟩
  rw [← rowOf_take l i hi, List.getElem?_take] at hu
  split at hu
  · exact hu
  · cases hu
/-- .. and those behind the i-th. -/
theorem own_tail {w : World} {g : Nat} {c : Nat} {l : List Item} (h : w.ownsRow 0 31 3 (.slice (some ⟨g, 0, none⟩) l.length c) l.length (rowOf l)) (i : Nat) (hi : i ≤ l.length) (A' : Option Addr) (hA : i < l.length → A' = some ⟨g, i * 3, none⟩) : Rd w (fun k => k = g) 3 (.slice A' (l.length - i) (c - i)) (l.length - i) (rowOf (l.drop i)) := by
  have h0 := Rd.of_own h
  have hc := h0.cap
  refine ⟨by rw [rowOf_length, List.length_drop], A', c - i, rfl, by omega, by omega, fun hn => ?_⟩
  obtain ⟨g', o, he, hs, hj⟩ := h0.some_ (by omega)
  injection he with he
  injection he with he1 he2
  subst he1 he2
  refine ⟨g, i * 3, hA (by omega), rfl, fun j u hu => ?_⟩
  rw [← rowOf_drop l i hi, List.getElem?_drop] at hu
  have := hj (i * 3 + j) u hu
  simpa using this
end Go.Proofs.Ytdnbbjhickjnmaa
