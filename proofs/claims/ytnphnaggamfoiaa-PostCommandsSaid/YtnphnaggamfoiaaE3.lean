/- The coder that reads: octets, many. -/
import Derived.Test.YtnphnaggamfoiaaE2
import Derived.Deep.OwnRows
namespace Go.Proofs.Ytnphnaggamfoiaa
open Go.RowKit
set_option maxRecDepth 20000
set_option linter.unusedVariables false
set_option linter.unusedSimpArgs false

/-- Behind the reading of bytes behind how many they are. -/
def OctDid (T : Nat → Prop) (rb g o : Nat) (t : TypeId) (cs : Array Value) (s : St) (w : World) (e : Ending) (w' : World) : Prop :=
  ∃ A c, RrDid T rb g t (cs.setIfInBounds o (.slice A s.oct.length c)) s.ox w e w' ∧ w'.ownsRow w.heap.size 5 1 (.slice A s.oct.length c) s.oct.length (bts s.oct)
set_option maxHeartbeats 1000000 in
theorem roct_any (T : Nat → Prop) (rb g o : Nat) (t : TypeId) (cs : Array Value) (A0 : Option Addr) (n0 c0 : Nat) (most : Int) (s : St) (w : World) (h : RrAt w T rb s) (hb : Blk w g t cs) (hg : ¬ T g) (hc : cs[o]? = some (.slice A0 n0 c0)) :
    Calls Try.prog 110 #[.pointer (some ⟨rb, 0, none⟩), .pointer (some ⟨g, o, none⟩), .int .i64 most] w (OctDid T rb g o t cs s w) := by
  have H := Lib.hid (h.below (Ba (B0 w) (.cells #[.int .i64 0] 3)))
  have HB := Lib.hid (And.intro (hb.alloc (.cells #[.int .i64 0] 3)) (And.intro hg hc))
  have hnT : ¬ T w.heap.size := fun h' => by have := h.2.1 _ h'; omega
  have lg := hb.lt
  have hnw : g ≠ w.heap.size := by omega
  have HW := Lib.hid (Ba (B0 w) (.cells #[.int .i64 0] 3))
  clear h hb hg hc
  go_enter Try.func110, Try.ntmps110
  go_wp2_with fail
  refine (rnum_any T rb w.heap.size 0 2 3 #[.int .i64 0] 0 s _ H.out (Blk.new w 3 _) hnT rfl).mono ?_
  rw [num0]
  rintro e w1 ⟨rfl, hr, hm, hk⟩
  have HR := Lib.hid hr
  have HG := Lib.hid (HB.out.1.kept hm (fun h => h.elim HB.out.2.1 hnw))
  have HM := Lib.hid ((Mod.of_below (S := fun i => T i ∨ i = w.heap.size) HW.out).trans hm (fun i hi => .inl hi))
  have HK := Lib.hid (show Blk w1 w.heap.size 3 #[.int .i64 (s.num 2)] from hk)
  have l1 := HK.out.lt
  have c0' : w1.cell? ⟨w.heap.size, 0, none⟩ = some (.int .i64 (s.num 2)) := HK.out.cell 0
  clear hr hm hk
  go_wp2_with fail
  refine (rsome_any T rb (s.num 2) (s.nx 2) w1 HR.out).mono ?_
  rintro e w2 ⟨A, c, rfl, ho, hr, hm⟩
  have HO := Lib.hid ho
  replace HR := Lib.hid (show RrAt w2 T rb s.ox from hr)
  replace HG := Lib.hid (HG.out.kept hm HB.out.2.1)
  replace HM := Lib.hid (HM.out.trans hm (fun i hi => .inl (.inl hi)))
  have g0 := (HG.out.cell o).trans HB.out.2.2
  have g1 := HG.out.frozen o
  have lg2 := HG.out.lt
  have lw := HM.out.size
  clear hr hm c0' ho
  go_wp2_with fail
  have m1 : Mod (fun i => i = g) w2 (w2.setCell ⟨g, o, none⟩ (.slice A s.oct.length c)) := (Mod.refl (fun i => i = g) w2).setCell (p := ⟨g, o, none⟩) (.inl rfl) _
  refine bodyPost_ret (v := .tuple #[]) (by simp [results, Try.results110, go_sem]) rfl ?_
  refine ⟨A, c, ⟨rfl, HR.out.kept m1 (fun i hi e => HB.out.2.1 (e ▸ hi)), ?_, HG.out.set_ o _⟩, ?_⟩
  · exact ((Mod.refl (fun i => T i ∨ i = g) w).trans HM.out (fun i hi => hi.elim (fun h => .inl (.inl h)) (fun h => .inr (by omega)))).trans m1 (fun i hi => .inl (.inr hi))
  · exact own_mod HO.out m1 (fun i hi e => by have := own_ge HO.out i hi; omega) (by omega)

def zEn : En := ⟨0, 0, 0, none, 0, []⟩
theorem infoE1 : (Try.prog.info? 46).map (fun i => (i.zero, i.size, i.bytes)) = some (some (.agg #[.int .i64 0, .int .i64 0, .int .i64 0, .slice none 0 0]), 4, 48) := by kernel_rfl
theorem madeE (n : Nat) (h : n ≤ 8) : madeCells (Value.agg #[.int .i64 0, .int .i64 0, .int .i64 0, .slice none 0 0]).cells (n * 4) = (rowE (List.replicate n zEn)).toArray := by
  obtain rfl | rfl | rfl | rfl | rfl | rfl | rfl | rfl | rfl : n = 0 ∨ n = 1 ∨ n = 2 ∨ n = 3 ∨ n = 4 ∨ n = 5 ∨ n = 6 ∨ n = 7 ∨ n = 8 := by omega
  all_goals kernel_rfl
theorem make_ents (v : Int) (n : Nat) (hv : v = n) (hn : n ≤ 8) (w : World) : (Instr.makeSlice 22 (.int .i64 v) (.int .i64 v)).run Try.prog w = .ok (.slice (some ⟨w.heap.size, 0, none⟩) n n) (w.alloc (.cells (rowE (List.replicate n zEn)).toArray 46)) := by
  obtain ⟨i0, hi0, hz0, hz1, hz2⟩ := info_parts infoE1
  subst hv
  have hr := run_make (P := Try.prog) w 22 46 i0 _ Try.underlying22 hi0 hz0 .i64 .i64 n n (by omega) (Int.le_refl _) (by rw [hz2]; omega) (by omega)
  rw [hr, hz1, Int.toNat_natCast, madeE n hn]

def St.mx (s : St) : St := (s.nx 1).fail (decide (8 < s.num 1)) 4
theorem St.Ok.mx {s : St} (h : s.Ok) : s.mx.Ok := (h.nx 1).fail _ _
theorem St.mx_ok {s : St} (hb : s.Ok) (h : s.mx.e = 0) : s.num 1 = ((s.num 1).toNat : Int) ∧ (s.num 1).toNat ≤ 8 := by
  obtain ⟨h1, h2, _⟩ := St.fail_ok (by decide) h
  have := St.num_bd (n := 1) (.inl rfl) hb
  have hd : ¬ 8 < s.num 1 := by simpa using h2
  omega
/-- Behind the reading of how many entries there are: they are made, if nothing is wrong. -/
def ManyDid (T : Nat → Prop) (rb g : Nat) (t : TypeId) (cs : Array Value) (s : St) (w : World) (e : Ending) (w' : World) : Prop :=
  (s.mx.e ≠ 0 ∧ RrDid T rb g t cs s.mx w e w') ∨ (s.mx.e = 0 ∧ ∃ ge, w.heap.size ≤ ge ∧ RrDid T rb g t (cs.setIfInBounds 9 (.slice (some ⟨ge, 0, none⟩) (s.num 1).toNat (s.num 1).toNat)) s.mx w e w' ∧ Blk w' ge 46 (rowE (List.replicate (s.num 1).toNat zEn)).toArray)

set_option maxHeartbeats 1000000 in
theorem rmany_any (T : Nat → Prop) (rb g : Nat) (t : TypeId) (cs : Array Value) (A0 : Option Addr) (n0 c0 : Nat) (s : St) (w : World) (h : RrAt w T rb s) (hb : Blk w g t cs) (hg : ¬ T g) (hc : cs[9]? = some (.slice A0 n0 c0)) :
    Calls Try.prog 109 #[.pointer (some ⟨rb, 0, none⟩), .pointer (some ⟨g, 0, none⟩)] w (ManyDid T rb g t cs s w) := by
  have hok := h.2.2.1
  have H := Lib.hid (h.below (Ba (B0 w) (.cells #[.int .i64 0] 3)))
  have HB := Lib.hid (And.intro (hb.alloc (.cells #[.int .i64 0] 3)) (And.intro hg hc))
  have hnT : ¬ T w.heap.size := fun h' => by have := h.2.1 _ h'; omega
  have lg := hb.lt
  have hnw : g ≠ w.heap.size := by omega
  have HW := Lib.hid (Ba (B0 w) (.cells #[.int .i64 0] 3))
  have HOK := Lib.hid hok
  clear h hb hg hc hok
  go_enter Try.func109, Try.ntmps109
  go_wp2_with fail
  refine (rnum_any T rb w.heap.size 0 1 3 #[.int .i64 0] 0 s _ H.out (Blk.new w 3 _) hnT rfl).mono ?_
  rw [num0]
  rintro e w1 ⟨rfl, hr, hm, hk⟩
  have HR := Lib.hid hr
  have HG := Lib.hid (HB.out.1.kept hm (fun h => h.elim HB.out.2.1 hnw))
  have HM := Lib.hid ((Mod.of_below (S := fun i => T i ∨ i = w.heap.size) HW.out).trans hm (fun i hi => .inl hi))
  have HK := Lib.hid (show Blk w1 w.heap.size 3 #[.int .i64 (s.num 1)] from hk)
  have l1 := HK.out.lt
  have c0' : w1.cell? ⟨w.heap.size, 0, none⟩ = some (.int .i64 (s.num 1)) := HK.out.cell 0
  clear hr hm hk
  go_wp2_with fail
  refine (rfail_any T rb (decide (8 < s.num 1)) 4 (s.nx 1) w1 HR.out).mono ?_
  rintro e w2 ⟨rfl, hr, hm⟩
  have hr' : RrAt w2 T rb s.mx := hr
  replace HR := Lib.hid hr'
  replace HG := Lib.hid (HG.out.kept hm HB.out.2.1)
  replace HM := Lib.hid (HM.out.trans hm (fun i hi => .inl (.inl hi)))
  replace HK := Lib.hid (HK.out.kept hm hnT)
  have c1 : w2.cell? ⟨w.heap.size, 0, none⟩ = some (.int .i64 (s.num 1)) := HK.out.cell 0
  have l2 := HK.out.lt
  have g0 := (HG.out.cell 9).trans HB.out.2.2
  have g1 := HG.out.frozen 9
  have lg2 := HG.out.lt
  have lw := HM.out.size
  have hE : ∃ E, E = s.mx.e := ⟨_, rfl⟩
  obtain ⟨E, hE⟩ := hE
  obtain ⟨_, _, _, p, S, _, _, h6, _⟩ := hr'
  obtain ⟨b0, b1, f0, f1⟩ := blk2 h6
  have lr := h6.lt
  rw [← hE] at b1
  have HE := Lib.hid hE
  clear hr hm c0' l1 h6 hE
  by_cases h0 : E = 0
  · subst h0
    obtain ⟨e1, e2⟩ := St.mx_ok HOK.out HE.out.symm
    obtain ⟨n, hn⟩ : ∃ n, n = (s.num 1).toNat := ⟨_, rfl⟩
    have hmk := make_ents (s.num 1) n (by rw [hn]; exact e1) (by omega)
    have HNN := Lib.hid hn
    clear e1 e2 hn
    go_wp2_with fail
    have m1 : Mod (fun i => i = g) w2 ((w2.setCell ⟨g, 9, none⟩ (.slice (some ⟨w2.heap.size, 0, none⟩) n n)).alloc (.cells (rowE (List.replicate n zEn)).toArray 46)) := ((Mod.refl (fun i => i = g) w2).setCell (p := ⟨g, 9, none⟩) (.inl rfl) _).alloc _
    have hne : w2.heap.size ≠ g := by omega
    refine bodyPost_ret (v := .tuple #[]) (by simp [results, Try.results109, go_sem]) rfl ?_
    refine .inr ⟨HE.out.symm, w2.heap.size, by omega, ⟨rfl, HR.out.kept m1 (fun i hi e => HB.out.2.1 (e ▸ hi)), ?_, ?_⟩, ?_⟩
    · exact ((Mod.refl (fun i => T i ∨ i = g) w).trans HM.out (fun i hi => hi.elim (fun h => .inl (.inl h)) (fun h => .inr (by omega)))).trans m1 (fun i hi => .inl (.inr hi))
    · rw [← HNN.out]; exact (HG.out.set_ 9 _).alloc _
    · rw [← HNN.out]; simpa using Blk.new (w2.setCell ⟨g, 9, none⟩ (.slice (some ⟨w2.heap.size, 0, none⟩) n n)) 46 (rowE (List.replicate n zEn)).toArray
  · have hq : (E == 0) = false := by simpa using h0
    have H0 := Lib.hid h0
    clear h0
    go_wp2_with fail
    refine bodyPost_ret (v := .tuple #[]) (by simp [results, Try.results109, go_sem]) rfl ?_
    exact .inl ⟨by rw [← HE.out]; exact H0.out, rfl, HR.out, (Mod.refl (fun i => T i ∨ i = g) w).trans HM.out (fun i hi => hi.elim (fun h => .inl (.inl h)) (fun h => .inr (by omega))), HG.out⟩
end Go.Proofs.Ytnphnaggamfoiaa
