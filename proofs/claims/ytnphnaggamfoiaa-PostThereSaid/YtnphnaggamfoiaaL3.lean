/- A message's bytes, read back: what each kind has (plain words, no walk). -/
import Derived.Test.YtnphnaggamfoiaaL2
namespace Go.Proofs.Ytnphnaggamfoiaa
open Go.RowKit
set_option maxRecDepth 20000
set_option linter.unusedVariables false
set_option linter.unusedSimpArgs false

/-- What a message of a kind is, apart from where it lies: what it has not is zero. -/
theorem norm1 {P : Po} {l : List Ed} (h : May P l) (hk : P.kd = 1) : P.norm = { zPo 1 P.fr P.to P.te with ix := P.ix, lt := P.lt } := by
  obtain ⟨a, b, c, d⟩ := h.zero
  obtain ⟨kd, fr, tq, te, ix, lt, co, ok, hi, EA, en, ec, si, st, sc, SA, sn, sk⟩ := P
  simp only at hk
  subst hk
  simp [Po.bare, Po.nums] at a b c d
  simp [Po.norm, a, b, c, d]
theorem norm2 {P : Po} {l : List Ed} (h : May P l) (hk : P.kd = 2) : P.norm = { zPo 2 P.fr P.to P.te with ok := P.ok } := by
  obtain ⟨a, b, c, d⟩ := h.zero
  obtain ⟨kd, fr, tq, te, ix, lt, co, ok, hi, EA, en, ec, si, st, sc, SA, sn, sk⟩ := P
  simp only at hk
  subst hk
  simp [Po.bare, Po.nums] at a b c d
  simp [Po.norm, a, b, c, d]
theorem norm3 {P : Po} {l : List Ed} (h : May P l) (hk : P.kd = 3) : P.norm = { zPo 3 P.fr P.to P.te with ix := P.ix, lt := P.lt, co := P.co, hi := P.hi, en := P.en } := by
  obtain ⟨a, b, c, d⟩ := h.zero
  obtain ⟨kd, fr, tq, te, ix, lt, co, ok, hi, EA, en, ec, si, st, sc, SA, sn, sk⟩ := P
  simp only at hk
  subst hk
  simp [Po.bare, Po.nums] at a b c d
  simp [Po.norm, a, b, c, d]
theorem norm4 {P : Po} {l : List Ed} (h : May P l) (hk : P.kd = 4) : P.norm = { zPo 4 P.fr P.to P.te with ok := P.ok, ix := P.ix, hi := P.hi } := by
  obtain ⟨a, b, c, d⟩ := h.zero
  obtain ⟨kd, fr, tq, te, ix, lt, co, ok, hi, EA, en, ec, si, st, sc, SA, sn, sk⟩ := P
  simp only at hk
  subst hk
  simp [Po.bare, Po.nums] at a b c d
  simp [Po.norm, a, b, c, d]
theorem norm5 {P : Po} {l : List Ed} (h : May P l) (hk : P.kd = 5) : P.norm = { zPo 5 P.fr P.to P.te with hi := P.hi, si := P.si, st := P.st, sc := P.sc, sn := P.sn } := by
  obtain ⟨a, b, c, d⟩ := h.zero
  obtain ⟨kd, fr, tq, te, ix, lt, co, ok, hi, EA, en, ec, si, st, sc, SA, sn, sk⟩ := P
  simp only at hk
  subst hk
  simp [Po.bare, Po.nums] at a b c d
  simp [Po.norm, a, b, c, d]
theorem norm6 {P : Po} {l : List Ed} (h : May P l) (hk : P.kd = 6) : P.norm = { zPo 6 P.fr P.to P.te with ix := P.ix, hi := P.hi } := by
  obtain ⟨a, b, c, d⟩ := h.zero
  obtain ⟨kd, fr, tq, te, ix, lt, co, ok, hi, EA, en, ec, si, st, sc, SA, sn, sk⟩ := P
  simp only at hk
  subst hk
  simp [Po.bare, Po.nums] at a b c d
  simp [Po.norm, a, b, c, d]
end Go.Proofs.Ytnphnaggamfoiaa
