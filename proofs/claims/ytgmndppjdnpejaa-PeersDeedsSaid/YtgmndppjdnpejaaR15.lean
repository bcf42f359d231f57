/- The inputs' readings: a list of deeds; PeersDeeds. -/
import Derived.Test.YtgmndppjdnpejaaR14
import Derived.Test.YtgmndppjdnpejaaB21
namespace Go.Proofs.Ytgmndppjdnpejaa
open Go.RowKit Go.WideShapes Go.ChangeShapes
set_option maxRecDepth 20000
set_option linter.unusedVariables false
set_option linter.unusedSimpArgs false

theorem weights_all {H : Type} {P : Program} {e : TypeId} : ∀ {l : List (DataW H)} {d : DataW H}, d ∈ l → ∀ n ∈ d.weights P e, n ∈ DataW.weightsAll P e l
  | x :: l, d, h, n, hn => by
    simp only [DataW.weightsAll, List.mem_append]
    rcases List.mem_cons.1 h with rfl | h
    · exact .inl hn
    · exact .inr (weights_all h n hn)
theorem open_rowsW {H : Type} {enc : TypeId × Value → H} {W : World} {sp : Nat → Bool} {held : Bool} {α : Type} {t e : TypeId} {n bb : Nat} (ht : Try.prog.underlying t = some (.slice e)) (hn : Try.prog.cellsOf e = n) (hn0 : 0 < n) (hbb : Try.prog.bytesOf e = bb) (f : α → List Value) (Q : α → Prop) (hf : ∀ y, Q y → (f y).length = n)
    (el : ∀ {fuel : Nat} {cs : List Value} {x : DataW H × List MemPlace}, DataW.trod enc Try.prog W 0 sp held fuel e cs = some x → (∀ k ∈ x.1.weights Try.prog e, k ≤ reachBytes) → ∃ y : α, cs = f y ∧ Q y) {fuel : Nat} {cs : List Value} {x : DataW H × List MemPlace} (h : DataW.trod enc Try.prog W 0 sp held fuel t cs = some x) (hz : ∀ k ∈ x.1.weights Try.prog t, k ≤ reachBytes) :
    ∃ (A : Option Addr) (c : Nat) (l : List α), cs = [.slice A l.length c] ∧ Rd W (fun i => i < W.heap.size) n (.slice A l.length c) l.length (l.flatMap f) ∧ (∀ y ∈ l, Q y) ∧ l.length * bb ≤ reachBytes := by
  rcases Go.Deep.open_slice ht h with ⟨hcs, hx⟩ | ⟨a, len, cap, m, k, D, Pl, hcs, _, hl, hm, hmm, hx, hel⟩
  · exact ⟨none, 0, [], hcs, Rd.nil _ _ _, fun x hx => by simp at hx, by simp⟩
  · subst hx
    have hlm : len ≤ m := by rw [hmm]; split <;> omega
    have hsp : 0 < len → a.spot = none := by
      intro h0
      obtain ⟨cs', hc, hd⟩ := hel 0 (by omega)
      rw [hn] at hc
      obtain ⟨hcl, hcj⟩ := cells_at hc
      have h := (cell_spot (hcj 0 (by omega))).1
      simpa [Addr.add] using h
    have each : ∀ i, i < len → ∃ y : α, Q y ∧ ∃ g o, a = ⟨g, o, none⟩ ∧ g < W.heap.size ∧ ∀ j u, (f y)[j]? = some u → W.cell? ⟨g, o + i * n + j, none⟩ = some u := by
      intro i hi
      obtain ⟨cs', hc, hd⟩ := hel i (by omega)
      rw [hn] at hc
      obtain ⟨hcl, hcj⟩ := cells_at hc
      obtain ⟨y, hy, hw⟩ := el hd (fun q hq => hz q (by
        simp only [DataW.weights, ht]
        exact List.mem_cons_of_mem _ (List.mem_append_left _ (weights_all (List.mem_map.2 ⟨i, by simpa using hi, rfl⟩) q hq))))
      subst hy
      obtain ⟨g, o, s⟩ := a
      have hs : s = none := hsp (by omega)
      subst hs
      have c0 := hcj 0 (by rw [hf y hw]; omega)
      rw [addr_add] at c0
      refine ⟨y, hw, g, o, rfl, (cell_spot c0).2, fun j u hu => ?_⟩
      have hj : j < (f y).length := (List.getElem?_eq_some_iff.1 hu).1
      have h := hcj j hj
      rw [addr_add, addr_add] at h
      rw [show o + i * n + j = o + (i * n + j) by omega, ← show o + i * n + j = o + (i * n + j) by omega, h]
      rw [List.getElem?_eq_getElem hj] at hu
      exact hu
    obtain ⟨l, hll, hq⟩ := list_of _ len each
    have hQ : ∀ y ∈ l, Q y := fun y hy => by
      obtain ⟨i, hi, rfl⟩ := List.getElem_of_mem hy
      exact (hq i hi).1
    have hF : ∀ y ∈ l, (f y).length = n := fun y hy => hf y (hQ y hy)
    have hlen : (l.flatMap f).length = l.length * n := by
      rw [List.length_flatMap]
      have : ∀ (l : List α), (∀ y ∈ l, (f y).length = n) → (l.map (fun a => (f a).length)).sum = l.length * n := by
        intro l
        induction l with
        | nil => intro _; simp
        | cons x l ih =>
          intro h
          rw [List.map_cons, List.sum_cons, ih (fun y hy => h y (by simp [hy])), h x (by simp), List.length_cons, Nat.succ_mul]
          omega
      exact this l hF
    have hwl : l.length * bb ≤ reachBytes := by
      have h0 := hz _ (by simp only [DataW.weights, ht]; exact List.mem_cons_self)
      rw [hbb] at h0
      rw [hll]
      refine Nat.le_trans (Nat.mul_le_mul_right bb ?_) h0
      simp
    refine ⟨some a, cap, l, by rw [hll]; exact hcs, ⟨hlen, some a, cap, rfl, by rw [hll]; exact hl, hm, fun h0 => ?_⟩, hQ, hwl⟩
    obtain ⟨_, g, o, ha, hg, _⟩ := hq 0 (by omega)
    refine ⟨g, o, by rw [ha], hg, fun j u hu => ?_⟩
    have hj : j < l.length * n := by have := (List.getElem?_eq_some_iff.1 hu).1; rwa [hlen] at this
    have hi : j / n < l.length := (Nat.div_lt_iff_lt_mul hn0).2 hj
    obtain ⟨_, g', o', ha', _, hc⟩ := hq (j / n) hi
    rw [ha] at ha'
    injection ha' with e1 e2
    subst e1 e2
    have e : j / n * n + j % n = j := by rw [Nat.mul_comm]; exact Nat.div_add_mod j n
    have h := flat_at (f := f) hF (j / n) hi (j % n) (Nat.mod_lt _ hn0)
    rw [e, hu] at h
    have := hc (j % n) u h.symm
    rwa [Nat.add_assoc, e] at this
theorem open_peerW {H : Type} {enc : TypeId × Value → H} {W : World} {sp : Nat → Bool} {held : Bool} {fuel : Nat} {cs : List Value} {x : DataW H × List MemPlace} (hf : DataW.trod enc Try.prog W 0 sp held fuel 43 cs = some x) (hz : ∀ k ∈ x.1.weights Try.prog 43, k ≤ reachBytes) :
    ∃ p : Pe, cs = p.L ∧ (PeAt W (fun i => i < W.heap.size) p ∧ p.ins.length * 16 ≤ 140737488355328 ∧ p.outs.length * 16 ≤ 140737488355328) := by
  obtain ⟨xs, m, _, rfl, hl, hxl, hfs⟩ := DataW.trod_struct Try.underlying43 hf
  rw [peer_cells] at hl
  have g0 := hfs 0 _ rfl
  have g1 := hfs 1 _ rfl
  have g2 := hfs 2 _ rfl
  have g3 := hfs 3 _ rfl
  have g4 := hfs 4 _ rfl
  match xs, hxl with
  | [y0, y1, y2, y3, y4], _ =>
    replace g0 : DataW.trod enc Try.prog W 0 sp held m 3 ((cs.drop 0).take (Try.prog.cellsOf 3)) = some y0 := g0
    replace g1 : DataW.trod enc Try.prog W 0 sp held m 31 ((cs.drop 1).take (Try.prog.cellsOf 31)) = some y1 := g1
    replace g2 : DataW.trod enc Try.prog W 0 sp held m 3 ((cs.drop 33).take (Try.prog.cellsOf 3)) = some y2 := g2
    replace g3 : DataW.trod enc Try.prog W 0 sp held m 41 ((cs.drop 34).take (Try.prog.cellsOf 41)) = some y3 := g3
    replace g4 : DataW.trod enc Try.prog W 0 sp held m 41 ((cs.drop 35).take (Try.prog.cellsOf 41)) = some y4 := g4
    rw [cint_cells] at g0 g2
    rw [key_cells] at g1
    rw [spans_cells] at g3 g4
    obtain ⟨a0, e0, _, w0⟩ := DataW.trod_int Try.underlying3 g0
    obtain ⟨ks, e1, hk, hb⟩ := open_key g1
    obtain ⟨a2, e2, _, w2⟩ := DataW.trod_int Try.underlying3 g2
    obtain ⟨IA, ic, ins, e3, hi, _, z3⟩ := open_rowsW Try.underlying41 span_cells (by omega) (show Try.prog.bytesOf 45 = 16 by kernel_rfl) Sp.L (fun _ => True) (fun _ _ => rfl) (fun h _ => open_span h) g3 (fun q hq => hz q (by simp only [DataW.weights, Try.underlying43]; exact DataW.weights_mem_each (j := 3) (t := 41) rfl rfl q hq))
    obtain ⟨OA, oc, outs, e4, ho, _, z4⟩ := open_rowsW Try.underlying41 span_cells (by omega) (show Try.prog.bytesOf 45 = 16 by kernel_rfl) Sp.L (fun _ => True) (fun _ _ => rfl) (fun h _ => open_span h) g4 (fun q hq => hz q (by simp only [DataW.weights, Try.underlying43]; exact DataW.weights_mem_each (j := 4) (t := 41) rfl rfl q hq))
    have hrb : reachBytes = 140737488351232 := rfl
    refine ⟨⟨a0, ks, a2, IA, ic, ins, OA, oc, outs⟩, ?_, ⟨hk, hb, hi, ho⟩, by show ins.length * 16 ≤ _; omega, by show outs.length * 16 ≤ _; omega⟩
    have hc : cs = cs.take 1 ++ ((cs.drop 1).take 32 ++ ((cs.drop 33).take 1 ++ ((cs.drop 34).take 1 ++ (cs.drop 35).take 1))) := by
      have h35 : (cs.drop 35).take 1 = cs.drop 35 := List.take_of_length_le (by simp; omega)
      rw [h35, show cs.drop 35 = (cs.drop 34).drop 1 by rw [List.drop_drop], List.take_append_drop, show cs.drop 34 = (cs.drop 33).drop 1 by rw [List.drop_drop], List.take_append_drop, show cs.drop 33 = (cs.drop 1).drop 32 by rw [List.drop_drop], List.take_append_drop, List.take_append_drop]
    simp only [List.drop_zero] at e0
    rw [hc, e0, e1, e2, e3, e4]
    rfl
theorem open_nmW {H : Type} {enc : TypeId × Value → H} {W : World} {sp : Nat → Bool} {held : Bool} {fuel : Nat} {cs : List Value} {x : DataW H × List MemPlace} (hf : DataW.trod enc Try.prog W 0 sp held fuel 34 cs = some x) (hz : ∀ k ∈ x.1.weights Try.prog 34, k ≤ reachBytes) :
    ∃ m : Nm, cs = m.L ∧ NmAt W (fun i => i < W.heap.size) m ∧ m.ps.length * 96 ≤ 140737488355328 ∧ (∀ p ∈ m.ps, p.ins.length * 16 ≤ 140737488355328 ∧ p.outs.length * 16 ≤ 140737488355328) := by
  obtain ⟨xs, m, _, rfl, hl, hxl, hfs⟩ := DataW.trod_struct Try.underlying34 hf
  rw [map_cells] at hl
  have g0 := hfs 0 _ rfl
  have g1 := hfs 1 _ rfl
  have g2 := hfs 2 _ rfl
  have g3 := hfs 3 _ rfl
  have g4 := hfs 4 _ rfl
  have g5 := hfs 5 _ rfl
  match xs, hxl with
  | [y0, y1, y2, y3, y4, y5], _ =>
    replace g0 : DataW.trod enc Try.prog W 0 sp held m 3 ((cs.drop 0).take (Try.prog.cellsOf 3)) = some y0 := g0
    replace g1 : DataW.trod enc Try.prog W 0 sp held m 3 ((cs.drop 1).take (Try.prog.cellsOf 3)) = some y1 := g1
    replace g2 : DataW.trod enc Try.prog W 0 sp held m 3 ((cs.drop 2).take (Try.prog.cellsOf 3)) = some y2 := g2
    replace g3 : DataW.trod enc Try.prog W 0 sp held m 31 ((cs.drop 3).take (Try.prog.cellsOf 31)) = some y3 := g3
    replace g4 : DataW.trod enc Try.prog W 0 sp held m 3 ((cs.drop 35).take (Try.prog.cellsOf 3)) = some y4 := g4
    replace g5 : DataW.trod enc Try.prog W 0 sp held m 32 ((cs.drop 36).take (Try.prog.cellsOf 32)) = some y5 := g5
    rw [cint_cells] at g0 g1 g2 g4
    rw [key_cells] at g3
    rw [peers_cells] at g5
    obtain ⟨a0, e0, _, w0⟩ := DataW.trod_int Try.underlying3 g0
    obtain ⟨a1, e1, _, w1⟩ := DataW.trod_int Try.underlying3 g1
    obtain ⟨a2, e2, _, w2⟩ := DataW.trod_int Try.underlying3 g2
    obtain ⟨ks, e3, hk, hb⟩ := open_key g3
    obtain ⟨a4, e4, _, w4⟩ := DataW.trod_int Try.underlying3 g4
    obtain ⟨PA, pc, ps, e5, hp, hpe, z5⟩ := open_rowsW Try.underlying32 peer_cells (by omega) (show Try.prog.bytesOf 43 = 96 by kernel_rfl) Pe.L (fun p => PeAt W (fun i => i < W.heap.size) p ∧ p.ins.length * 16 ≤ 140737488355328 ∧ p.outs.length * 16 ≤ 140737488355328) (fun p hp => Pe.len hp.1.k32) (fun h h2 => open_peerW h h2) g5 (fun q hq => hz q (by simp only [DataW.weights, Try.underlying34]; exact DataW.weights_mem_each (j := 5) (t := 32) rfl rfl q hq))
    have hrb : reachBytes = 140737488351232 := rfl
    refine ⟨⟨a0, a1, a2, ks, a4, PA, pc, ps⟩, ?_, ⟨hk, hb, hp, fun p hp => (hpe p hp).1⟩, by show ps.length * 96 ≤ _; omega, fun p hp => (hpe p hp).2⟩
    have hc : cs = cs.take 1 ++ ((cs.drop 1).take 1 ++ ((cs.drop 2).take 1 ++ ((cs.drop 3).take 32 ++ ((cs.drop 35).take 1 ++ (cs.drop 36).take 1)))) := by
      have h36 : (cs.drop 36).take 1 = cs.drop 36 := List.take_of_length_le (by simp; omega)
      rw [h36, show cs.drop 36 = (cs.drop 35).drop 1 by rw [List.drop_drop], List.take_append_drop, show cs.drop 35 = (cs.drop 3).drop 32 by rw [List.drop_drop], List.take_append_drop, show cs.drop 3 = (cs.drop 2).drop 1 by rw [List.drop_drop], List.take_append_drop, show cs.drop 2 = (cs.drop 1).drop 1 by rw [List.drop_drop], List.take_append_drop, List.take_append_drop]
    simp only [List.drop_zero] at e0
    rw [hc, e0, e1, e2, e3, e4, e5]
    rfl
theorem deed_cells : Try.prog.cellsOf 37 = 72 := by kernel_rfl
theorem cbool_cells : Try.prog.cellsOf 4 = 1 := by kernel_rfl
theorem open_deed {H : Type} {enc : TypeId × Value → H} {W : World} {sp : Nat → Bool} {held : Bool} {fuel : Nat} {cs : List Value} {x : DataW H × List MemPlace} (hf : DataW.trod enc Try.prog W 0 sp held fuel 37 cs = some x) (hz : ∀ k ∈ x.1.weights Try.prog 37, k ≤ reachBytes) :
    ∃ d : Dd, cs = d.L ∧ DdIn W d := by
  obtain ⟨xs, m, _, rfl, hl, hxl, hfs⟩ := DataW.trod_struct Try.underlying37 hf
  rw [deed_cells] at hl
  have g0 := hfs 0 _ rfl
  have g1 := hfs 1 _ rfl
  have g2 := hfs 2 _ rfl
  have g3 := hfs 3 _ rfl
  have g4 := hfs 4 _ rfl
  match xs, hxl with
  | [y0, y1, y2, y3, y4], _ =>
    replace g0 : DataW.trod enc Try.prog W 0 sp held m 4 ((cs.drop 0).take (Try.prog.cellsOf 4)) = some y0 := g0
    replace g1 : DataW.trod enc Try.prog W 0 sp held m 34 ((cs.drop 1).take (Try.prog.cellsOf 34)) = some y1 := g1
    replace g2 : DataW.trod enc Try.prog W 0 sp held m 3 ((cs.drop 38).take (Try.prog.cellsOf 3)) = some y2 := g2
    replace g3 : DataW.trod enc Try.prog W 0 sp held m 31 ((cs.drop 39).take (Try.prog.cellsOf 31)) = some y3 := g3
    replace g4 : DataW.trod enc Try.prog W 0 sp held m 3 ((cs.drop 71).take (Try.prog.cellsOf 3)) = some y4 := g4
    rw [cint_cells] at g2 g4
    rw [cbool_cells] at g0
    rw [key_cells] at g3
    rw [map_cells] at g1
    obtain ⟨b0, e0, _⟩ := DataW.trod_bool Try.underlying4 g0
    obtain ⟨n, e1, hn, z0, z1⟩ := open_nmW g1 (fun q hq => hz q (by simp only [DataW.weights, Try.underlying37]; exact DataW.weights_mem_each (j := 1) (t := 34) rfl rfl q hq))
    obtain ⟨a2, e2, _, w2⟩ := DataW.trod_int Try.underlying3 g2
    obtain ⟨ks, e3, hk, hb⟩ := open_key g3
    obtain ⟨a4, e4, _, w4⟩ := DataW.trod_int Try.underlying3 g4
    refine ⟨⟨b0, n, a2, ks, a4⟩, ?_, hn, ⟨hn.k32, hk, hb⟩, z0, z1⟩
    have hc : cs = cs.take 1 ++ ((cs.drop 1).take 37 ++ ((cs.drop 38).take 1 ++ ((cs.drop 39).take 32 ++ (cs.drop 71).take 1))) := by
      have h71 : (cs.drop 71).take 1 = cs.drop 71 := List.take_of_length_le (by simp; omega)
      rw [h71, show cs.drop 71 = (cs.drop 39).drop 32 by rw [List.drop_drop], List.take_append_drop, show cs.drop 39 = (cs.drop 38).drop 1 by rw [List.drop_drop], List.take_append_drop, show cs.drop 38 = (cs.drop 1).drop 37 by rw [List.drop_drop], List.take_append_drop, List.take_append_drop]
    simp only [List.drop_zero] at e0
    rw [hc, e0, e1, e2, e3, e4]
    rfl
theorem open_deeds {H : Type} {enc : TypeId × Value → H} {W : World} {base : Nat} {sp : Nat → Bool} {held : Bool} {v : Value} {d : DataW H} {pl : List MemPlace} (hv : Value.okWide Try.prog W .any base 22 v) (ht : DataW.Trod enc Try.prog W 0 sp held 22 v d pl)
    (hz : ∀ n ∈ d.weights Try.prog 22, n ≤ reachBytes) :
    ∃ (A : Option Addr) (c : Nat) (l : List Dd), v = .slice A l.length c ∧ Rd W (fun i => i < W.heap.size) 72 (.slice A l.length c) l.length (l.flatMap Dd.L) ∧ ∀ d ∈ l, DdIn W d := by
  obtain ⟨a1, len, cap, rfl⟩ := Go.WideShapes.okWide_slice Try.underlying22 hv
  obtain ⟨fuel, hf⟩ := ht
  obtain ⟨A, c, l, e, hr, hq, _⟩ := open_rowsW Try.underlying22 deed_cells (by omega) (show Try.prog.bytesOf 37 = 144 by kernel_rfl) Dd.L (fun d => DdIn W d) (fun d hd => Dd.len hd.ok) (fun h h2 => open_deed h h2) hf hz
  exact ⟨A, c, l, by simpa [Value.cells] using e, hr, hq⟩
theorem peersDeeds_walk {H : Type} {enc : TypeId × Value → H} (W : World) {base : Nat} {sp : Nat → Bool} {held : Bool} (n : Int) (w1 : (Lit.int .i64 n).wf = true) {v1 : Value} {d1 : DataW H} {pl1 : List MemPlace} (hv1 : Value.okWide Try.prog W .any base 22 v1) (ht1 : DataW.Trod enc Try.prog W 0 sp held 22 v1 d1 pl1) (hz1 : ∀ n ∈ d1.weights Try.prog 22, n ≤ reachBytes) :
    Calls Try.prog 3 #[.int .i64 n, v1] W fun e w' => e = .returned (.bool true) ∧ Below W.heap.size W w' := by
  obtain ⟨A, c, l, rfl, hr, hq⟩ := open_deeds hv1 ht1 hz1
  exact peersDeeds_at n A c l W hr hq
end Go.Proofs.Ytgmndppjdnpejaa
