/- What Unpack answers; blocks of messages. -/
import Derived.Test.YtnphnaggamfoiaaE7
namespace Go.Proofs.Ytnphnaggamfoiaa
open Go.RowKit
set_option maxRecDepth 20000
set_option linter.unusedVariables false
set_option linter.unusedSimpArgs false

/-- What Unpack answers. -/
def uKd (ys : List Int) : Int := (⟨ys, 0⟩ : St).num 1
def uA (ys : List Int) : St := ((⟨ys, 0⟩ : St).nx 1).fail (!wiB (uKd ys) 1 6) 4
def uH (ys : List Int) : St := (((uA ys).nx 1).nx 1).nx 7
def uB (ys : List Int) : St := bS (uKd ys) (uH ys)
def uP0 (ys : List Int) : Po := bP (uKd ys) ((uA ys).num 1) (((uA ys).nx 1).num 1) ((((uA ys).nx 1).nx 1).num 7) (uH ys)
def uL0 (ys : List Int) : List Ed := bL (uKd ys) (uH ys)
def uD0 (ys : List Int) : List Int := bD (uKd ys) (uH ys)
def uZ (ys : List Int) : St := (uB ys).fail (decide (0 < ((uB ys).l.length : Int)) || !(chkE (uP0 ys) (uL0 ys) == 0)) 4
theorem chk_norm (P : Po) (l : List Ed) : chkE P.norm l = chkE P l := by
  have : chkB P.norm l = chkB P l := by
    unfold chkB alB Po.nums Po.bare Po.norm
    by_cases k1 : P.kd = 1
    · simp [k1, srvB, numB, snpB]
    · by_cases k2 : P.kd = 2
      · simp [k2, srvB, numB, snpB]
      · by_cases k3 : P.kd = 3
        · simp [k3, srvB, numB, snpB]
        · by_cases k4 : P.kd = 4
          · simp [k4, srvB, numB, snpB]
          · by_cases k5 : P.kd = 5
            · simp [k5, srvB, numB, snpB]
            · simp [k1, k2, k3, k4, k5, srvB, numB, snpB]
  unfold chkE
  rw [this]
theorem blk14 {w : World} {g : Nat} {t : TypeId} {P : Po} (h : Blk w g t P.cs) : w.cell? ⟨g, 0, none⟩ = some (.int .i64 P.kd) ∧ w.cell? ⟨g, 1, none⟩ = some (.int .i64 P.fr) ∧ w.cell? ⟨g, 2, none⟩ = some (.int .i64 P.to) ∧ w.cell? ⟨g, 3, none⟩ = some (.int .i64 P.te) ∧ w.cell? ⟨g, 4, none⟩ = some (.int .i64 P.ix) ∧ w.cell? ⟨g, 5, none⟩ = some (.int .i64 P.lt) ∧ w.cell? ⟨g, 6, none⟩ = some (.int .i64 P.co) ∧ w.cell? ⟨g, 7, none⟩ = some (.bool P.ok) ∧ w.cell? ⟨g, 8, none⟩ = some (.int .i64 P.hi) ∧ w.cell? ⟨g, 9, none⟩ = some (.slice P.EA P.en P.ec) ∧ w.cell? ⟨g, 10, none⟩ = some (.int .i64 P.si) ∧ w.cell? ⟨g, 11, none⟩ = some (.int .i64 P.st) ∧ w.cell? ⟨g, 12, none⟩ = some (.int .i64 P.sc) ∧ w.cell? ⟨g, 13, none⟩ = some (.slice P.SA P.sn P.sk) :=
  ⟨h.cell 0, h.cell 1, h.cell 2, h.cell 3, h.cell 4, h.cell 5, h.cell 6, h.cell 7, h.cell 8, h.cell 9, h.cell 10, h.cell 11, h.cell 12, h.cell 13⟩
theorem blk_set14 {w : World} {g : Nat} {t : TypeId} (h : Blk w g t (zPo 0 0 0 0).cs) (P : Po) : ∃ wz, wz = ((((((((((((((w.setCell ⟨g, 0, none⟩ (.int .i64 P.kd)).setCell ⟨g, 1, none⟩ (.int .i64 P.fr)).setCell ⟨g, 2, none⟩ (.int .i64 P.to)).setCell ⟨g, 3, none⟩ (.int .i64 P.te)).setCell ⟨g, 4, none⟩ (.int .i64 P.ix)).setCell ⟨g, 5, none⟩ (.int .i64 P.lt)).setCell ⟨g, 6, none⟩ (.int .i64 P.co)).setCell ⟨g, 7, none⟩ (.bool P.ok)).setCell ⟨g, 8, none⟩ (.int .i64 P.hi)).setCell ⟨g, 9, none⟩ (.slice P.EA P.en P.ec)).setCell ⟨g, 10, none⟩ (.int .i64 P.si)).setCell ⟨g, 11, none⟩ (.int .i64 P.st)).setCell ⟨g, 12, none⟩ (.int .i64 P.sc)).setCell ⟨g, 13, none⟩ (.slice P.SA P.sn P.sk)) ∧ Blk wz g t P.cs ∧ Mod (fun j => j = g) w wz := by
  obtain ⟨w0, e0⟩ : ∃ u, u = w.setCell ⟨g, 0, none⟩ (.int .i64 P.kd) := ⟨_, rfl⟩
  have h0 : Blk w0 g t #[.int .i64 P.kd, .int .i64 0, .int .i64 0, .int .i64 0, .int .i64 0, .int .i64 0, .int .i64 0, .bool false, .int .i64 0, .slice none 0 0, .int .i64 0, .int .i64 0, .int .i64 0, .slice none 0 0] := by rw [e0]; exact h.set_ 0 (.int .i64 P.kd)
  obtain ⟨w1, e1⟩ : ∃ u, u = w0.setCell ⟨g, 1, none⟩ (.int .i64 P.fr) := ⟨_, rfl⟩
  have h1 : Blk w1 g t #[.int .i64 P.kd, .int .i64 P.fr, .int .i64 0, .int .i64 0, .int .i64 0, .int .i64 0, .int .i64 0, .bool false, .int .i64 0, .slice none 0 0, .int .i64 0, .int .i64 0, .int .i64 0, .slice none 0 0] := by rw [e1]; exact h0.set_ 1 (.int .i64 P.fr)
  obtain ⟨w2, e2⟩ : ∃ u, u = w1.setCell ⟨g, 2, none⟩ (.int .i64 P.to) := ⟨_, rfl⟩
  have h2 : Blk w2 g t #[.int .i64 P.kd, .int .i64 P.fr, .int .i64 P.to, .int .i64 0, .int .i64 0, .int .i64 0, .int .i64 0, .bool false, .int .i64 0, .slice none 0 0, .int .i64 0, .int .i64 0, .int .i64 0, .slice none 0 0] := by rw [e2]; exact h1.set_ 2 (.int .i64 P.to)
  obtain ⟨w3, e3⟩ : ∃ u, u = w2.setCell ⟨g, 3, none⟩ (.int .i64 P.te) := ⟨_, rfl⟩
  have h3 : Blk w3 g t #[.int .i64 P.kd, .int .i64 P.fr, .int .i64 P.to, .int .i64 P.te, .int .i64 0, .int .i64 0, .int .i64 0, .bool false, .int .i64 0, .slice none 0 0, .int .i64 0, .int .i64 0, .int .i64 0, .slice none 0 0] := by rw [e3]; exact h2.set_ 3 (.int .i64 P.te)
  obtain ⟨w4, e4⟩ : ∃ u, u = w3.setCell ⟨g, 4, none⟩ (.int .i64 P.ix) := ⟨_, rfl⟩
  have h4 : Blk w4 g t #[.int .i64 P.kd, .int .i64 P.fr, .int .i64 P.to, .int .i64 P.te, .int .i64 P.ix, .int .i64 0, .int .i64 0, .bool false, .int .i64 0, .slice none 0 0, .int .i64 0, .int .i64 0, .int .i64 0, .slice none 0 0] := by rw [e4]; exact h3.set_ 4 (.int .i64 P.ix)
  obtain ⟨w5, e5⟩ : ∃ u, u = w4.setCell ⟨g, 5, none⟩ (.int .i64 P.lt) := ⟨_, rfl⟩
  have h5 : Blk w5 g t #[.int .i64 P.kd, .int .i64 P.fr, .int .i64 P.to, .int .i64 P.te, .int .i64 P.ix, .int .i64 P.lt, .int .i64 0, .bool false, .int .i64 0, .slice none 0 0, .int .i64 0, .int .i64 0, .int .i64 0, .slice none 0 0] := by rw [e5]; exact h4.set_ 5 (.int .i64 P.lt)
  obtain ⟨w6, e6⟩ : ∃ u, u = w5.setCell ⟨g, 6, none⟩ (.int .i64 P.co) := ⟨_, rfl⟩
  have h6 : Blk w6 g t #[.int .i64 P.kd, .int .i64 P.fr, .int .i64 P.to, .int .i64 P.te, .int .i64 P.ix, .int .i64 P.lt, .int .i64 P.co, .bool false, .int .i64 0, .slice none 0 0, .int .i64 0, .int .i64 0, .int .i64 0, .slice none 0 0] := by rw [e6]; exact h5.set_ 6 (.int .i64 P.co)
  obtain ⟨w7, e7⟩ : ∃ u, u = w6.setCell ⟨g, 7, none⟩ (.bool P.ok) := ⟨_, rfl⟩
  have h7 : Blk w7 g t #[.int .i64 P.kd, .int .i64 P.fr, .int .i64 P.to, .int .i64 P.te, .int .i64 P.ix, .int .i64 P.lt, .int .i64 P.co, .bool P.ok, .int .i64 0, .slice none 0 0, .int .i64 0, .int .i64 0, .int .i64 0, .slice none 0 0] := by rw [e7]; exact h6.set_ 7 (.bool P.ok)
  obtain ⟨w8, e8⟩ : ∃ u, u = w7.setCell ⟨g, 8, none⟩ (.int .i64 P.hi) := ⟨_, rfl⟩
  have h8 : Blk w8 g t #[.int .i64 P.kd, .int .i64 P.fr, .int .i64 P.to, .int .i64 P.te, .int .i64 P.ix, .int .i64 P.lt, .int .i64 P.co, .bool P.ok, .int .i64 P.hi, .slice none 0 0, .int .i64 0, .int .i64 0, .int .i64 0, .slice none 0 0] := by rw [e8]; exact h7.set_ 8 (.int .i64 P.hi)
  obtain ⟨w9, e9⟩ : ∃ u, u = w8.setCell ⟨g, 9, none⟩ (.slice P.EA P.en P.ec) := ⟨_, rfl⟩
  have h9 : Blk w9 g t #[.int .i64 P.kd, .int .i64 P.fr, .int .i64 P.to, .int .i64 P.te, .int .i64 P.ix, .int .i64 P.lt, .int .i64 P.co, .bool P.ok, .int .i64 P.hi, .slice P.EA P.en P.ec, .int .i64 0, .int .i64 0, .int .i64 0, .slice none 0 0] := by rw [e9]; exact h8.set_ 9 (.slice P.EA P.en P.ec)
  obtain ⟨w10, e10⟩ : ∃ u, u = w9.setCell ⟨g, 10, none⟩ (.int .i64 P.si) := ⟨_, rfl⟩
  have h10 : Blk w10 g t #[.int .i64 P.kd, .int .i64 P.fr, .int .i64 P.to, .int .i64 P.te, .int .i64 P.ix, .int .i64 P.lt, .int .i64 P.co, .bool P.ok, .int .i64 P.hi, .slice P.EA P.en P.ec, .int .i64 P.si, .int .i64 0, .int .i64 0, .slice none 0 0] := by rw [e10]; exact h9.set_ 10 (.int .i64 P.si)
  obtain ⟨w11, e11⟩ : ∃ u, u = w10.setCell ⟨g, 11, none⟩ (.int .i64 P.st) := ⟨_, rfl⟩
  have h11 : Blk w11 g t #[.int .i64 P.kd, .int .i64 P.fr, .int .i64 P.to, .int .i64 P.te, .int .i64 P.ix, .int .i64 P.lt, .int .i64 P.co, .bool P.ok, .int .i64 P.hi, .slice P.EA P.en P.ec, .int .i64 P.si, .int .i64 P.st, .int .i64 0, .slice none 0 0] := by rw [e11]; exact h10.set_ 11 (.int .i64 P.st)
  obtain ⟨w12, e12⟩ : ∃ u, u = w11.setCell ⟨g, 12, none⟩ (.int .i64 P.sc) := ⟨_, rfl⟩
  have h12 : Blk w12 g t #[.int .i64 P.kd, .int .i64 P.fr, .int .i64 P.to, .int .i64 P.te, .int .i64 P.ix, .int .i64 P.lt, .int .i64 P.co, .bool P.ok, .int .i64 P.hi, .slice P.EA P.en P.ec, .int .i64 P.si, .int .i64 P.st, .int .i64 P.sc, .slice none 0 0] := by rw [e12]; exact h11.set_ 12 (.int .i64 P.sc)
  obtain ⟨w13, e13⟩ : ∃ u, u = w12.setCell ⟨g, 13, none⟩ (.slice P.SA P.sn P.sk) := ⟨_, rfl⟩
  have h13 : Blk w13 g t #[.int .i64 P.kd, .int .i64 P.fr, .int .i64 P.to, .int .i64 P.te, .int .i64 P.ix, .int .i64 P.lt, .int .i64 P.co, .bool P.ok, .int .i64 P.hi, .slice P.EA P.en P.ec, .int .i64 P.si, .int .i64 P.st, .int .i64 P.sc, .slice P.SA P.sn P.sk] := by rw [e13]; exact h12.set_ 13 (.slice P.SA P.sn P.sk)
  refine ⟨w13, by rw [e13, e12, e11, e10, e9, e8, e7, e6, e5, e4, e3, e2, e1, e0], h13, ?_⟩
  rw [e13, e12, e11, e10, e9, e8, e7, e6, e5, e4, e3, e2, e1, e0]
  exact (((((((((((((((Mod.refl (fun j => j = g) w).setCell (p := ⟨g, 0, none⟩) (.inl rfl) (.int .i64 P.kd)).setCell (p := ⟨g, 1, none⟩) (.inl rfl) (.int .i64 P.fr)).setCell (p := ⟨g, 2, none⟩) (.inl rfl) (.int .i64 P.to)).setCell (p := ⟨g, 3, none⟩) (.inl rfl) (.int .i64 P.te)).setCell (p := ⟨g, 4, none⟩) (.inl rfl) (.int .i64 P.ix)).setCell (p := ⟨g, 5, none⟩) (.inl rfl) (.int .i64 P.lt)).setCell (p := ⟨g, 6, none⟩) (.inl rfl) (.int .i64 P.co)).setCell (p := ⟨g, 7, none⟩) (.inl rfl) (.bool P.ok)).setCell (p := ⟨g, 8, none⟩) (.inl rfl) (.int .i64 P.hi)).setCell (p := ⟨g, 9, none⟩) (.inl rfl) (.slice P.EA P.en P.ec)).setCell (p := ⟨g, 10, none⟩) (.inl rfl) (.int .i64 P.si)).setCell (p := ⟨g, 11, none⟩) (.inl rfl) (.int .i64 P.st)).setCell (p := ⟨g, 12, none⟩) (.inl rfl) (.int .i64 P.sc)).setCell (p := ⟨g, 13, none⟩) (.inl rfl) (.slice P.SA P.sn P.sk))
theorem PoAt.kept {w w' : World} {S G : Nat → Prop} {P : Po} {l : List En} {d : List Int} (h : PoAt w S P l d) (hm : Mod G w w') (hd : ∀ i, S i → ¬ G i) : PoAt w' S P l d :=
  ⟨fun i hi => Nat.lt_of_lt_of_le (h.lt i hi) hm.size, h.len, h.most, h.rd.kept hm hd, fun x hx => ⟨(h.each x hx).1.kept hm hd, (h.each x hx).2⟩, h.dlen, h.dmost, h.data.kept hm hd⟩
theorem PoAt.mono {w : World} {S T : Nat → Prop} {P : Po} {l : List En} {d : List Int} (h : PoAt w S P l d) (hT : ∀ i, S i → T i) (ht : ∀ i, T i → i < w.heap.size) : PoAt w T P l d :=
  ⟨ht, h.len, h.most, h.rd.mono hT, fun x hx => ⟨(h.each x hx).1.mono hT, (h.each x hx).2⟩, h.dlen, h.dmost, h.data.mono hT⟩
end Go.Proofs.Ytnphnaggamfoiaa
