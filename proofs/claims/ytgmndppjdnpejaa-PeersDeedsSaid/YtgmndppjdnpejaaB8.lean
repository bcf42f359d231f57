/- A table: New, none, Now, Version. -/
import Derived.Test.YtgmndppjdnpejaaB7
import Derived.Test.YtgmndppjdnpejaaB2
namespace Go.Proofs.Ytgmndppjdnpejaa
open Go.RowKit
open Go.Maps (Keyed)
set_option maxRecDepth 20000
set_option linter.unusedVariables false
set_option linter.unusedSimpArgs false

/-- The peer of a node, of a key: the last one that was laid down. -/
def lkN (l : List Pe) (n : Int) : Option Pe := l.reverse.find? (fun p => p.nd == n)
def lkK (l : List Pe) (k : List Int) : Option Pe := l.reverse.find? (fun p => p.ks == k)
def FkIs (fk : Value → Option Value) (ps : List Pe) : Prop := ∀ ks : List Int, fk (.agg (bts ks).toArray) = (lkK ps ks).map (fun p => .int .i64 p.nd)
def FnIs (fn : Value → Option Value) (ps : List Pe) : Prop := ∀ n : Int, fn (.int .i64 n) = (lkN ps n).map Pe.v
/-- The maps of a table, if it has any. -/
def TbMaps (w : World) (S : Nat → Prop) (mk mn : Option Nat) (ps : List Pe) : Prop :=
  (mk = none ∧ mn = none ∧ ps = []) ∨ (∃ bk bn nk nn fk fn, mk = some bk ∧ mn = some bn ∧ S bk ∧ S bn ∧ bk ≠ bn ∧ MapIs w 31 bk nk fk ∧ MapIs w 3 bn nn fn ∧ FkIs fk ps ∧ FnIs fn ps ∧ ∀ p ∈ ps, PeAt w S p)
abbrev tbCs (node tick ver : Int) (mk mn : Option Nat) : Array Value := #[.int .i64 node, .int .i64 tick, .int .i64 ver, .map mk, .map mn]
/-- A table in blocks of S. -/
def TbAt (w : World) (S : Nat → Prop) (g : Nat) (node tick ver : Int) (ps : List Pe) : Prop :=
  S g ∧ (∀ i, S i → i < w.heap.size) ∧ ∃ mk mn, Blk w g 71 (tbCs node tick ver mk mn) ∧ TbMaps w (fun i => S i ∧ i ≠ g) mk mn ps
theorem TbMaps.kept {w w' : World} {S T : Nat → Prop} {mk mn : Option Nat} {ps : List Pe} (h : TbMaps w S mk mn ps) (hm : Mod T w w') (hd : ∀ i, S i → ¬ T i) : TbMaps w' S mk mn ps := by
  rcases h with h | ⟨bk, bn, nk, nn, fk, fn, e1, e2, s1, s2, hne, m1, m2, f1, f2, hp⟩
  · exact .inl h
  · exact .inr ⟨bk, bn, nk, nn, fk, fn, e1, e2, s1, s2, hne, m1.kept hm (hd _ s1), m2.kept hm (hd _ s2), f1, f2, fun p h => (hp p h).kept hm hd⟩
theorem TbAt.kept {w w' : World} {S T : Nat → Prop} {g : Nat} {node tick ver : Int} {ps : List Pe} (h : TbAt w S g node tick ver ps) (hm : Mod T w w') (hd : ∀ i, S i → ¬ T i) : TbAt w' S g node tick ver ps := by
  obtain ⟨h1, h2, mk, mn, h3, h4⟩ := h
  exact ⟨h1, fun i hi => Nat.lt_of_lt_of_le (h2 i hi) hm.size, mk, mn, h3.kept hm (hd _ h1), h4.kept hm (fun i hi => hd i hi.1)⟩
theorem TbAt.below {w w' : World} {S : Nat → Prop} {g : Nat} {node tick ver : Int} {ps : List Pe} (h : TbAt w S g node tick ver ps) (hb : Below w.heap.size w w') : TbAt w' S g node tick ver ps :=
  h.kept (Mod.of_below (S := fun _ => False) hb) (fun _ _ h => h)
theorem new_bad (n : Int) (w : World) (h : ndB n = false) : Calls Try.prog 10 #[.int .i64 n] w fun e w' => e = .returned (.tuple #[.pointer none, .int .i64 220]) ∧ w = w' := by
  have h' : ¬ (1 ≤ n ∧ n ≤ 8) := fun hh => by have : ndB n = true := by simp [ndB]; omega
                                              rw [h] at this; cases this
  clear h
  by_cases h1 : n < 1
  · go_enter Try.func10, Try.ntmps10
    go_wp2
    go_ret2
    exact ⟨rfl, rfl⟩
  · have h2 : 8 < n := by omega
    go_enter Try.func10, Try.ntmps10
    go_wp2
    go_ret2
    exact ⟨rfl, rfl⟩
/-- A table that is new. -/
def NewDid (n : Int) (w : World) (e : Ending) (w' : World) : Prop := ∃ g, e = .returned (.tuple #[.pointer (some ⟨g, 0, none⟩), .int .i64 0]) ∧ TbAt w' (fun i => i = g) g n 0 0 [] ∧ w.heap.size ≤ g ∧ Below w.heap.size w w'
theorem new_ok (n : Int) (w : World) (h : ndB n = true) : Calls Try.prog 10 #[.int .i64 n] w (NewDid n w) := by
  obtain ⟨h1, h2⟩ := ndB_le h
  have h1' : ¬ n < 1 := by omega
  have h2' : ¬ 8 < n := by omega
  clear h
  go_enter Try.func10, Try.ntmps10
  go_wp2
  go_ret2
  exact ⟨w.heap.size, rfl, ⟨rfl, fun i hi => by subst hi; simp, none, none, Blk.new w _ _, .inl ⟨rfl, rfl, rfl⟩⟩, Nat.le_refl _, Ba (B0 w) _⟩
theorem none_any (g : Nat) (node tick ver : Int) (mk mn : Option Nat) (w : World) (hb : Blk w g 71 (tbCs node tick ver mk mn)) (hn : 1 ≤ node) :
    Calls Try.prog 33 #[.pointer (some ⟨g, 0, none⟩)] w fun e w' => e = .returned (.bool false) ∧ w = w' := by
  have y0 : w.cell? ⟨g, 0, none⟩ = some (.int .i64 node) := hb.cell 0
  have lg := hb.lt
  have hz : (node == 0) = false := by simp; omega
  clear hb
  go_enter Try.func33, Try.ntmps33
  go_wp2
  go_ret
  exact ⟨rfl, rfl⟩
theorem none_nil (w : World) : Calls Try.prog 33 #[.pointer none] w fun e w' => e = .returned (.bool true) ∧ w = w' := by
  go_enter Try.func33, Try.ntmps33
  go_wp2
  go_ret
  exact ⟨rfl, rfl⟩
theorem none_zero (g : Nat) (tick ver : Int) (mk mn : Option Nat) (w : World) (hb : Blk w g 71 (tbCs 0 tick ver mk mn)) :
    Calls Try.prog 33 #[.pointer (some ⟨g, 0, none⟩)] w fun e w' => e = .returned (.bool true) ∧ w = w' := by
  have y0 : w.cell? ⟨g, 0, none⟩ = some (.int .i64 0) := hb.cell 0
  have lg := hb.lt
  clear hb
  go_enter Try.func33, Try.ntmps33
  go_wp2
  go_ret
  exact ⟨rfl, rfl⟩
def nowE (tick t : Int) : Int := if t < 0 ∨ 9007199254740991 < t then 9 else if t < tick then 201 else 0
def nowT (tick t : Int) : Int := if nowE tick t = 0 then t else tick
def NowDid (S : Nat → Prop) (g : Nat) (node tick ver t : Int) (ps : List Pe) (w : World) (e : Ending) (w' : World) : Prop :=
  e = .returned (.int .i64 (nowE tick t)) ∧ TbAt w' S g node (nowT tick t) ver ps ∧ Mod (fun i => i = g) w w'
set_option maxHeartbeats 1000000 in
theorem now_any (S : Nat → Prop) (g : Nat) (node tick ver t : Int) (ps : List Pe) (w : World) (h : TbAt w S g node tick ver ps) (hn : 1 ≤ node) :
    Calls Try.prog 16 #[.pointer (some ⟨g, 0, none⟩), .int .i64 t] w (NowDid S g node tick ver t ps w) := by
  have H := Lib.hid h
  obtain ⟨s1, s2, mk, mn, hb, hmp⟩ := h
  have HB := Lib.hid hb
  have HS := Lib.hid (And.intro s1 (And.intro s2 hmp))
  have y1 : w.cell? ⟨g, 1, none⟩ = some (.int .i64 tick) := hb.cell 1
  have fy1 := hb.frozen 1
  have lg := hb.lt
  clear hmp hb s1 s2
  by_cases q1 : t < 0
  · have HE : Hid (nowE tick t = 9) := Lib.hid (if_pos (.inl q1))
    go_enter Try.func16, Try.ntmps16
    go_wp2_with (go_at_call 33; refine (none_any g node tick ver mk mn _ HB.out hn).mono ?_; rintro e w' ⟨rfl, rfl⟩)
    go_ret
    exact ⟨ret_int HE.out.symm, by unfold nowT; rw [HE.out, if_neg (by decide)]; exact H.out, Mod.refl _ _⟩
  · by_cases q2 : 9007199254740991 < t
    · have HE : Hid (nowE tick t = 9) := Lib.hid (if_pos (.inr q2))
      go_enter Try.func16, Try.ntmps16
      go_wp2_with (go_at_call 33; refine (none_any g node tick ver mk mn _ HB.out hn).mono ?_; rintro e w' ⟨rfl, rfl⟩)
      go_ret
      exact ⟨ret_int HE.out.symm, by unfold nowT; rw [HE.out, if_neg (by decide)]; exact H.out, Mod.refl _ _⟩
    · by_cases q3 : t < tick
      · have HE : Hid (nowE tick t = 201) := Lib.hid (by unfold nowE; rw [if_neg (by omega), if_pos q3])
        go_enter Try.func16, Try.ntmps16
        go_wp2_with (go_at_call 33; refine (none_any g node tick ver mk mn _ HB.out hn).mono ?_; rintro e w' ⟨rfl, rfl⟩)
        go_ret
        exact ⟨ret_int HE.out.symm, by unfold nowT; rw [HE.out, if_neg (by decide)]; exact H.out, Mod.refl _ _⟩
      · have HE : Hid (nowE tick t = 0) := Lib.hid (by unfold nowE; rw [if_neg (by omega), if_neg q3])
        go_enter Try.func16, Try.ntmps16
        go_wp2_with (go_at_call 33; refine (none_any g node tick ver mk mn _ HB.out hn).mono ?_; rintro e w' ⟨rfl, rfl⟩)
        go_ret
        have hm : Mod (fun i => i = g) w (w.setCell ⟨g, 1, none⟩ (.int .i64 t)) := (Mod.refl (fun i => i = g) w).setCell (p := ⟨g, 1, none⟩) (.inl rfl) _
        exact ⟨ret_int HE.out.symm, by unfold nowT; rw [HE.out, if_pos rfl]; exact ⟨HS.out.1, fun i hi => by simpa using HS.out.2.1 i hi, mk, mn, HB.out.set_ 1 _, HS.out.2.2.kept hm (fun i hi => hi.2)⟩, hm⟩
theorem version_any (S : Nat → Prop) (g : Nat) (node tick ver : Int) (ps : List Pe) (w : World) (h : TbAt w S g node tick ver ps) (hn : 1 ≤ node) :
    Calls Try.prog 28 #[.pointer (some ⟨g, 0, none⟩)] w fun e w' => e = .returned (.int .i64 ver) ∧ w = w' := by
  obtain ⟨s1, s2, mk, mn, hb, hmp⟩ := h
  have HB := Lib.hid hb
  have y2 : w.cell? ⟨g, 2, none⟩ = some (.int .i64 ver) := hb.cell 2
  have lg := hb.lt
  clear hmp hb s1 s2
  go_enter Try.func28, Try.ntmps28
  go_wp2_with (go_at_call 33; refine (none_any g node tick ver mk mn _ HB.out hn).mono ?_; rintro e w' ⟨rfl, rfl⟩)
  go_ret
  exact ⟨rfl, rfl⟩
end Go.Proofs.Ytgmndppjdnpejaa
