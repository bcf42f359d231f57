/- The inputs' readings: netmaps, lists of structs. -/
import Derived.Test.YtgmndppjdnpejaaB17
import Derived.Test.YtgmndppjdnpejaaArgs
import Derived.ProofKit
import Derived.OpenShut
import Derived.Deep.Slices
namespace Go.Proofs.Ytgmndppjdnpejaa
open Go.RowKit Go.WideShapes Go.ChangeShapes
set_option maxRecDepth 20000
set_option linter.unusedVariables false
set_option linter.unusedSimpArgs false

theorem key_cells : Try.prog.cellsOf 31 = 32 := by kernel_rfl
theorem span_cells : Try.prog.cellsOf 45 = 2 := by kernel_rfl
theorem peer_cells : Try.prog.cellsOf 43 = 36 := by kernel_rfl
theorem map_cells : Try.prog.cellsOf 34 = 37 := by kernel_rfl
theorem cint_cells : Try.prog.cellsOf 3 = 1 := by kernel_rfl
theorem spans_cells : Try.prog.cellsOf 41 = 1 := by kernel_rfl
theorem peers_cells : Try.prog.cellsOf 32 = 1 := by kernel_rfl
theorem byte_cells : Try.prog.cellsOf 5 = 1 := by kernel_rfl
/-- A slice whose elements are opened one by one. -/
theorem open_rows {H : Type} {enc : TypeId × Value → H} {W : World} {sp : Nat → Bool} {held : Bool} {α : Type} {t e : TypeId} {n : Nat} (ht : Try.prog.underlying t = some (.slice e)) (hn : Try.prog.cellsOf e = n) (hn0 : 0 < n) (f : α → List Value) (Q : α → Prop) (hf : ∀ y, Q y → (f y).length = n)
    (el : ∀ {fuel : Nat} {cs : List Value} {x : DataW H × List MemPlace}, DataW.trod enc Try.prog W 0 sp held fuel e cs = some x → ∃ y : α, cs = f y ∧ Q y) {fuel : Nat} {cs : List Value} {x : DataW H × List MemPlace} (h : DataW.trod enc Try.prog W 0 sp held fuel t cs = some x) :
    ∃ (A : Option Addr) (c : Nat) (l : List α), cs = [.slice A l.length c] ∧ Rd W (fun i => i < W.heap.size) n (.slice A l.length c) l.length (l.flatMap f) ∧ ∀ y ∈ l, Q y := by
  rcases Go.Deep.open_slice ht h with ⟨hcs, hx⟩ | ⟨a, len, cap, m, k, D, Pl, hcs, _, hl, hm, hmm, hx, hel⟩
  · exact ⟨none, 0, [], hcs, Rd.nil _ _ _, fun x hx => by simp at hx⟩
  · subst hx
    have hlm : len ≤ m := by rw [hmm]; split <;> omega
    have hsp : 0 < len → a.spot = none := by
      intro h0
      obtain ⟨cs', hc, hd⟩ := hel 0 (by omega)
      rw [hn] at hc
      obtain ⟨hcl, hcj⟩ := cells_at hc
      have h := (cell_spot (hcj 0 (by omega))).1
      simpa [Addr.add] using h
    have each : ∀ i, i < len → ∃ y : α, Q y ∧ ∃ g o, a = ⟨g, o, none⟩ ∧ g < W.heap.size ∧ ∀ j u, (f y)[j]? = some u → W.cell? ⟨g, o + i * n + j, none⟩ = some u := by
      intro i hi
      obtain ⟨cs', hc, hd⟩ := hel i (by omega)
      rw [hn] at hc
      obtain ⟨hcl, hcj⟩ := cells_at hc
      obtain ⟨y, hy, hw⟩ := el hd
      subst hy
      obtain ⟨g, o, s⟩ := a
      have hs : s = none := hsp (by omega)
      subst hs
      have c0 := hcj 0 (by rw [hf y hw]; omega)
      rw [addr_add] at c0
      refine ⟨y, hw, g, o, rfl, (cell_spot c0).2, fun j u hu => ?_⟩
      have hj : j < (f y).length := (List.getElem?_eq_some_iff.1 hu).1
      have h := hcj j hj
      rw [addr_add, addr_add] at h
      rw [show o + i * n + j = o + (i * n + j) by omega, ← show o + i * n + j = o + (i * n + j) by omega, h]
      rw [List.getElem?_eq_getElem hj] at hu
      exact hu
    obtain ⟨l, hll, hq⟩ := list_of _ len each
    have hQ : ∀ y ∈ l, Q y := fun y hy => by
      obtain ⟨i, hi, rfl⟩ := List.getElem_of_mem hy
      exact (hq i hi).1
    have hF : ∀ y ∈ l, (f y).length = n := fun y hy => hf y (hQ y hy)
    have hlen : (l.flatMap f).length = l.length * n := by
      rw [List.length_flatMap]
      have : ∀ (l : List α), (∀ y ∈ l, (f y).length = n) → (l.map (fun a => (f a).length)).sum = l.length * n := by
        intro l
        induction l with
        | nil => intro _; simp
        | cons x l ih =>
          intro h
          rw [List.map_cons, List.sum_cons, ih (fun y hy => h y (by simp [hy])), h x (by simp), List.length_cons, Nat.succ_mul]
          omega
      exact this l hF
    refine ⟨some a, cap, l, by rw [hll]; exact hcs, ⟨hlen, some a, cap, rfl, by rw [hll]; exact hl, hm, fun h0 => ?_⟩, hQ⟩
    obtain ⟨_, g, o, ha, hg, _⟩ := hq 0 (by omega)
    refine ⟨g, o, by rw [ha], hg, fun j u hu => ?_⟩
    have hj : j < l.length * n := by have := (List.getElem?_eq_some_iff.1 hu).1; rwa [hlen] at this
    have hi : j / n < l.length := (Nat.div_lt_iff_lt_mul hn0).2 hj
    obtain ⟨_, g', o', ha', _, hc⟩ := hq (j / n) hi
    rw [ha] at ha'
    injection ha' with e1 e2
    subst e1 e2
    have e : j / n * n + j % n = j := by rw [Nat.mul_comm]; exact Nat.div_add_mod j n
    have h := flat_at (f := f) hF (j / n) hi (j % n) (Nat.mod_lt _ hn0)
    rw [e, hu] at h
    have := hc (j % n) u h.symm
    rwa [Nat.add_assoc, e] at this
theorem open_key {H : Type} {enc : TypeId × Value → H} {W : World} {sp : Nat → Bool} {held : Bool} {fuel : Nat} {cs : List Value} {x : DataW H × List MemPlace} (hf : DataW.trod enc Try.prog W 0 sp held fuel 31 cs = some x) :
    ∃ ks : List Int, cs = bts ks ∧ ks.length = 32 ∧ Byt ks := by
  obtain ⟨xs, m, _, _, hl, hxl, hel⟩ := DataW.trod_array Try.underlying31 hf
  rw [key_cells] at hl
  have each : ∀ i, i < 32 → ∃ b : Int, cs[i]? = some (.int .u8 b) ∧ 0 ≤ b ∧ b < 256 := by
    intro i hi
    have h := hel i hi
    rw [byte_cells, Nat.mul_one] at h
    have hx : ∃ y, xs[i]? = some y := ⟨_, List.getElem?_eq_getElem (by omega)⟩
    obtain ⟨y, hy⟩ := hx
    rw [hy] at h
    obtain ⟨b, e, _, wf⟩ := DataW.trod_int Try.underlying5 h
    have hb := u8_wf wf
    refine ⟨b, ?_, hb.1, hb.2⟩
    have e2 : (cs.drop i).take 1 = [cs[i]'(by omega)] := by
      rw [List.drop_eq_getElem_cons (by omega)]
      rfl
    rw [e2] at e
    injection e with e
    rw [List.getElem?_eq_getElem (by omega), e]
  obtain ⟨ks, hkl, hk⟩ := list_of (fun i (b : Int) => cs[i]? = some (.int .u8 b) ∧ 0 ≤ b ∧ b < 256) 32 each
  refine ⟨ks, ?_, hkl, ?_⟩
  · apply List.ext_getElem?
    intro i
    by_cases hi : i < 32
    · rw [(hk i (by omega)).1, bts_getElem? ks i (by omega)]
    · rw [List.getElem?_eq_none (by omega), List.getElem?_eq_none (by rw [bts_length]; omega)]
  · intro x hx
    obtain ⟨i, hi, rfl⟩ := List.getElem_of_mem hx
    exact (hk i hi).2
theorem open_span {H : Type} {enc : TypeId × Value → H} {W : World} {sp : Nat → Bool} {held : Bool} {fuel : Nat} {cs : List Value} {x : DataW H × List MemPlace} (hf : DataW.trod enc Try.prog W 0 sp held fuel 45 cs = some x) :
    ∃ s : Sp, cs = s.L ∧ True := by
  obtain ⟨xs, m, _, rfl, hl, hxl, hfs⟩ := DataW.trod_struct Try.underlying45 hf
  rw [span_cells] at hl
  have g0 := hfs 0 _ rfl
  have g1 := hfs 1 _ rfl
  match cs, hl with
  | [c0, c1], _ =>
    match xs, hxl with
    | [y0, y1], _ =>
      simp [cint_cells] at g0 g1
      obtain ⟨a, e0, _, w0⟩ := DataW.trod_int Try.underlying3 g0
      obtain ⟨b, e1, _, w1⟩ := DataW.trod_int Try.underlying3 g1
      simp at e0 e1
      subst e0 e1
      exact ⟨⟨a, b⟩, rfl, trivial⟩
theorem open_peer {H : Type} {enc : TypeId × Value → H} {W : World} {sp : Nat → Bool} {held : Bool} {fuel : Nat} {cs : List Value} {x : DataW H × List MemPlace} (hf : DataW.trod enc Try.prog W 0 sp held fuel 43 cs = some x) :
    ∃ p : Pe, cs = p.L ∧ PeAt W (fun i => i < W.heap.size) p := by
  obtain ⟨xs, m, _, rfl, hl, hxl, hfs⟩ := DataW.trod_struct Try.underlying43 hf
  rw [peer_cells] at hl
  have g0 := hfs 0 _ rfl
  have g1 := hfs 1 _ rfl
  have g2 := hfs 2 _ rfl
  have g3 := hfs 3 _ rfl
  have g4 := hfs 4 _ rfl
  match xs, hxl with
  | [y0, y1, y2, y3, y4], _ =>
    replace g0 : DataW.trod enc Try.prog W 0 sp held m 3 ((cs.drop 0).take (Try.prog.cellsOf 3)) = some y0 := g0
    replace g1 : DataW.trod enc Try.prog W 0 sp held m 31 ((cs.drop 1).take (Try.prog.cellsOf 31)) = some y1 := g1
    replace g2 : DataW.trod enc Try.prog W 0 sp held m 3 ((cs.drop 33).take (Try.prog.cellsOf 3)) = some y2 := g2
    replace g3 : DataW.trod enc Try.prog W 0 sp held m 41 ((cs.drop 34).take (Try.prog.cellsOf 41)) = some y3 := g3
    replace g4 : DataW.trod enc Try.prog W 0 sp held m 41 ((cs.drop 35).take (Try.prog.cellsOf 41)) = some y4 := g4
    rw [cint_cells] at g0 g2
    rw [key_cells] at g1
    rw [spans_cells] at g3 g4
    obtain ⟨a0, e0, _, w0⟩ := DataW.trod_int Try.underlying3 g0
    obtain ⟨ks, e1, hk, hb⟩ := open_key g1
    obtain ⟨a2, e2, _, w2⟩ := DataW.trod_int Try.underlying3 g2
    obtain ⟨IA, ic, ins, e3, hi, _⟩ := open_rows Try.underlying41 span_cells (by omega) Sp.L (fun _ => True) (fun _ _ => rfl) open_span g3
    obtain ⟨OA, oc, outs, e4, ho, _⟩ := open_rows Try.underlying41 span_cells (by omega) Sp.L (fun _ => True) (fun _ _ => rfl) open_span g4
    refine ⟨⟨a0, ks, a2, IA, ic, ins, OA, oc, outs⟩, ?_, hk, hb, hi, ho⟩
    have hc : cs = cs.take 1 ++ ((cs.drop 1).take 32 ++ ((cs.drop 33).take 1 ++ ((cs.drop 34).take 1 ++ (cs.drop 35).take 1))) := by
      have h35 : (cs.drop 35).take 1 = cs.drop 35 := List.take_of_length_le (by simp; omega)
      rw [h35, show cs.drop 35 = (cs.drop 34).drop 1 by rw [List.drop_drop], List.take_append_drop, show cs.drop 34 = (cs.drop 33).drop 1 by rw [List.drop_drop], List.take_append_drop, show cs.drop 33 = (cs.drop 1).drop 32 by rw [List.drop_drop], List.take_append_drop, List.take_append_drop]
    simp only [List.drop_zero] at e0
    rw [hc, e0, e1, e2, e3, e4]
    rfl
theorem open_nm {H : Type} {enc : TypeId × Value → H} {W : World} {sp : Nat → Bool} {held : Bool} {fuel : Nat} {cs : List Value} {x : DataW H × List MemPlace} (hf : DataW.trod enc Try.prog W 0 sp held fuel 34 cs = some x) :
    ∃ m : Nm, cs = m.L ∧ NmAt W (fun i => i < W.heap.size) m := by
  obtain ⟨xs, m, _, rfl, hl, hxl, hfs⟩ := DataW.trod_struct Try.underlying34 hf
  rw [map_cells] at hl
  have g0 := hfs 0 _ rfl
  have g1 := hfs 1 _ rfl
  have g2 := hfs 2 _ rfl
  have g3 := hfs 3 _ rfl
  have g4 := hfs 4 _ rfl
  have g5 := hfs 5 _ rfl
  match xs, hxl with
  | [y0, y1, y2, y3, y4, y5], _ =>
    replace g0 : DataW.trod enc Try.prog W 0 sp held m 3 ((cs.drop 0).take (Try.prog.cellsOf 3)) = some y0 := g0
    replace g1 : DataW.trod enc Try.prog W 0 sp held m 3 ((cs.drop 1).take (Try.prog.cellsOf 3)) = some y1 := g1
    replace g2 : DataW.trod enc Try.prog W 0 sp held m 3 ((cs.drop 2).take (Try.prog.cellsOf 3)) = some y2 := g2
    replace g3 : DataW.trod enc Try.prog W 0 sp held m 31 ((cs.drop 3).take (Try.prog.cellsOf 31)) = some y3 := g3
    replace g4 : DataW.trod enc Try.prog W 0 sp held m 3 ((cs.drop 35).take (Try.prog.cellsOf 3)) = some y4 := g4
    replace g5 : DataW.trod enc Try.prog W 0 sp held m 32 ((cs.drop 36).take (Try.prog.cellsOf 32)) = some y5 := g5
    rw [cint_cells] at g0 g1 g2 g4
    rw [key_cells] at g3
    rw [peers_cells] at g5
    obtain ⟨a0, e0, _, w0⟩ := DataW.trod_int Try.underlying3 g0
    obtain ⟨a1, e1, _, w1⟩ := DataW.trod_int Try.underlying3 g1
    obtain ⟨a2, e2, _, w2⟩ := DataW.trod_int Try.underlying3 g2
    obtain ⟨ks, e3, hk, hb⟩ := open_key g3
    obtain ⟨a4, e4, _, w4⟩ := DataW.trod_int Try.underlying3 g4
    obtain ⟨PA, pc, ps, e5, hp, hpe⟩ := open_rows Try.underlying32 peer_cells (by omega) Pe.L (fun p => PeAt W (fun i => i < W.heap.size) p) (fun p hp => Pe.len hp.k32) open_peer g5
    refine ⟨⟨a0, a1, a2, ks, a4, PA, pc, ps⟩, ?_, hk, hb, hp, hpe⟩
    have hc : cs = cs.take 1 ++ ((cs.drop 1).take 1 ++ ((cs.drop 2).take 1 ++ ((cs.drop 3).take 32 ++ ((cs.drop 35).take 1 ++ (cs.drop 36).take 1)))) := by
      have h36 : (cs.drop 36).take 1 = cs.drop 36 := List.take_of_length_le (by simp; omega)
      rw [h36, show cs.drop 36 = (cs.drop 35).drop 1 by rw [List.drop_drop], List.take_append_drop, show cs.drop 35 = (cs.drop 3).drop 32 by rw [List.drop_drop], List.take_append_drop, show cs.drop 3 = (cs.drop 2).drop 1 by rw [List.drop_drop], List.take_append_drop, show cs.drop 2 = (cs.drop 1).drop 1 by rw [List.drop_drop], List.take_append_drop, List.take_append_drop]
    simp only [List.drop_zero] at e0
    rw [hc, e0, e1, e2, e3, e4, e5]
    rfl
theorem open_map {H : Type} {enc : TypeId × Value → H} {W : World} {base : Nat} {sp : Nat → Bool} {held : Bool} {v : Value} {d : DataW H} {pl : List MemPlace} (hv : Value.okWide Try.prog W .any base 34 v) (ht : DataW.Trod enc Try.prog W 0 sp held 34 v d pl) :
    ∃ m : Nm, v = m.v ∧ NmAt W (fun i => i < W.heap.size) m := by
  simp only [Value.okWide, Try.underlying34] at hv
  obtain ⟨cs, rfl, hsz, _⟩ := hv
  obtain ⟨cs⟩ := cs
  obtain ⟨fuel, hf⟩ := ht
  obtain ⟨m, e, hm⟩ := open_nm hf
  refine ⟨m, ?_, hm⟩
  have : cs = m.L := e
  rw [this]
end Go.Proofs.Ytgmndppjdnpejaa
