/- WireRow, where what comes in is small: the reading's bound, the row's proof. -/
import Derived.Test.YtodijebpoipeiaaU8
import Derived.Test.YtodijebpoipeiaaRows
import Derived.ProofKit
import Derived.OpenShut
import Derived.SizedLaws
import Derived.ChangeSlices
import Derived.WideShapes
import Derived.Deep.Slices
namespace Go.Proofs.Ytodijebpoipeiaa
open Go.RowKit Go.WideShapes Go.ChangeShapes
set_option maxRecDepth 20000
set_option linter.unusedVariables false
set_option linter.unusedSimpArgs false

theorem mul_bd {a b K : Nat} (h : b ≤ K) (n : Nat) (hn : a ≤ n) : a * b ≤ K * n := by
  rw [Nat.mul_comm K n]
  exact Nat.mul_le_mul hn h
theorem bulk_len {H : Type} : ∀ l : List (DataW H), l.length ≤ Rows.uptoBulkAll l
  | [] => by simp [Rows.uptoBulkAll]
  | d :: r => by
    have h1 := bulk_len r
    have h2 : 1 ≤ Rows.uptoBulk d := by
      cases d with
      | lit l => cases l <;> simp [Rows.uptoBulk]
      | nil => simp [Rows.uptoBulk]
      | ptr d => simp [Rows.uptoBulk]
      | slice elems spare => simp [Rows.uptoBulk]
      | agg parts => simp [Rows.uptoBulk]
      | iface t d => simp [Rows.uptoBulk]
      | map entries => simp [Rows.uptoBulk]
      | held h => simp [Rows.uptoBulk]
    simp only [Rows.uptoBulkAll, List.length_cons]
    omega
/-- Types closed under what their underlying types lead to, none of them a map; elements of at most K bytes. -/
structure Clo (P : Program) (K : Nat) (T : TypeId → Prop) : Prop where
  ptr : ∀ t e, T t → P.underlying t = some (.pointer e) → T e
  slice : ∀ t e, T t → P.underlying t = some (.slice e) → T e ∧ P.bytesOf e ≤ K
  agg : ∀ t fs, T t → P.underlying t = some (.struct fs) → ∀ u ∈ fs.toList.map (·.type), T u
  arr : ∀ t n e, T t → P.underlying t = some (.array n e) → T e
  map : ∀ t k e, T t → P.underlying t ≠ some (.map k e)
mutual
theorem wt_le {H : Type} {P : Program} {K : Nat} {T : TypeId → Prop} (hK : Clo P K T) (h1 : 1 ≤ K) : ∀ (d : DataW H) (t : TypeId) (n : Nat), T t → n ∈ d.weights P t → n ≤ K * Rows.uptoBulk d
  | .lit l, t, n, ht, hn => by
    cases l <;> simp [DataW.weights, Rows.uptoBulk] at hn ⊢
    subst hn
    rename_i bytes
    calc bytes.length ≤ 1 * (bytes.length + 1) := by omega
      _ ≤ K * (bytes.length + 1) := Nat.mul_le_mul_right _ h1
  | .nil, t, n, ht, hn => by simp [DataW.weights] at hn
  | .ptr d, t, n, ht, hn => by
    simp only [DataW.weights] at hn
    split at hn
    · rename_i e h
      have := wt_le hK h1 d e n (hK.ptr t e ht h) hn
      simp only [Rows.uptoBulk, Nat.mul_add]
      omega
    · simp at hn
  | .slice elems spare, t, n, ht, hn => by
    simp only [DataW.weights] at hn
    split at hn
    · rename_i e h
      simp only [Rows.uptoBulk, Nat.mul_add]
      rcases List.mem_cons.1 hn with rfl | hn
      · have a := bulk_len elems
        have b := bulk_len spare
        have := mul_bd (hK.slice t e ht h).2 (Rows.uptoBulkAll elems + Rows.uptoBulkAll spare) (show elems.length + spare.length ≤ _ by omega)
        rw [Nat.mul_add] at this
        omega
      · rcases List.mem_append.1 hn with hn | hn
        · have := wtAll_le hK h1 elems e n (hK.slice t e ht h).1 hn; omega
        · have := wtAll_le hK h1 spare e n (hK.slice t e ht h).1 hn; omega
    · simp at hn
  | .agg parts, t, n, ht, hn => by
    simp only [DataW.weights] at hn
    simp only [Rows.uptoBulk, Nat.mul_add]
    split at hn
    · rename_i fs h
      have := wtEach_le hK h1 parts _ n (hK.agg t fs ht h) hn; omega
    · rename_i m e h
      have := wtAll_le hK h1 parts _ n (hK.arr t m e ht h) hn; omega
    · simp at hn
  | .iface s d, t, n, ht, hn => by simp [DataW.weights] at hn
  | .map entries, t, n, ht, hn => by
    simp only [DataW.weights] at hn
    split at hn
    · rename_i k e h
      exact absurd h (hK.map t k e ht)
    · simp at hn
  | .held h, t, n, ht, hn => by simp [DataW.weights] at hn
theorem wtAll_le {H : Type} {P : Program} {K : Nat} {T : TypeId → Prop} (hK : Clo P K T) (h1 : 1 ≤ K) : ∀ (l : List (DataW H)) (t : TypeId) (n : Nat), T t → n ∈ DataW.weightsAll P t l → n ≤ K * Rows.uptoBulkAll l
  | [], t, n, ht, hn => by simp [DataW.weightsAll] at hn
  | d :: r, t, n, ht, hn => by
    simp only [DataW.weightsAll, List.mem_append] at hn
    simp only [Rows.uptoBulkAll, Nat.mul_add]
    rcases hn with hn | hn
    · have := wt_le hK h1 d t n ht hn; omega
    · have := wtAll_le hK h1 r t n ht hn; omega
theorem wtEach_le {H : Type} {P : Program} {K : Nat} {T : TypeId → Prop} (hK : Clo P K T) (h1 : 1 ≤ K) : ∀ (l : List (DataW H)) (ts : List TypeId) (n : Nat), (∀ u ∈ ts, T u) → n ∈ DataW.weightsEach P ts l → n ≤ K * Rows.uptoBulkAll l
  | [], ts, n, ht, hn => by cases ts <;> simp [DataW.weightsEach] at hn
  | d :: r, [], n, ht, hn => by simp [DataW.weightsEach] at hn
  | d :: r, t :: ts, n, ht, hn => by
    simp only [DataW.weightsEach, List.mem_append] at hn
    simp only [Rows.uptoBulkAll, Nat.mul_add]
    rcases hn with hn | hn
    · have := wt_le hK h1 d t n (ht t (by simp)) hn; omega
    · have := wtEach_le hK h1 r ts n (fun u hu => ht u (by simp [hu])) hn; omega
end
def CallT (t : TypeId) : Prop := t = 22 ∨ t = 29 ∨ t = 3 ∨ t = 27 ∨ t = 5
theorem clo_calls : Clo Try.prog 48 CallT := by
  have b1 : Try.prog.bytesOf 29 = 48 := by kernel_rfl
  have b2 : Try.prog.bytesOf 5 = 1 := by kernel_rfl
  refine ⟨?_, ?_, ?_, ?_, ?_⟩
  · rintro t e (rfl | rfl | rfl | rfl | rfl) h
    · rw [Try.underlying22] at h; cases h
    · rw [Try.underlying29] at h; cases h
    · rw [Try.underlying3] at h; cases h
    · rw [Try.underlying27] at h; cases h
    · rw [Try.underlying5] at h; cases h
  · rintro t e (rfl | rfl | rfl | rfl | rfl) h
    · rw [Try.underlying22] at h; cases h; exact ⟨.inr (.inl rfl), by rw [b1]; omega⟩
    · rw [Try.underlying29] at h; cases h
    · rw [Try.underlying3] at h; cases h
    · rw [Try.underlying27] at h; cases h; exact ⟨.inr (.inr (.inr (.inr rfl))), by rw [b2]; omega⟩
    · rw [Try.underlying5] at h; cases h
  · rintro t fs (rfl | rfl | rfl | rfl | rfl) h
    · rw [Try.underlying22] at h; cases h
    · rw [Try.underlying29] at h
      cases h
      intro u hu
      simp at hu
      rcases hu with rfl | rfl
      · exact .inr (.inr (.inl rfl))
      · exact .inr (.inr (.inr (.inl rfl)))
    · rw [Try.underlying3] at h; cases h
    · rw [Try.underlying27] at h; cases h
    · rw [Try.underlying5] at h; cases h
  · rintro t n e (rfl | rfl | rfl | rfl | rfl) h
    · rw [Try.underlying22] at h; cases h
    · rw [Try.underlying29] at h; cases h
    · rw [Try.underlying3] at h; cases h
    · rw [Try.underlying27] at h; cases h
    · rw [Try.underlying5] at h; cases h
  · rintro t k e (rfl | rfl | rfl | rfl | rfl) h
    · rw [Try.underlying22] at h; cases h
    · rw [Try.underlying29] at h; cases h
    · rw [Try.underlying3] at h; cases h
    · rw [Try.underlying27] at h; cases h
    · rw [Try.underlying5] at h; cases h
theorem open_bytes_r {H : Type} {enc : TypeId × Value → H} {W : World} {sp : Nat → Bool} {held : Bool} {fuel : Nat} {cs : List Value} {x : DataW H × List MemPlace} (hf : DataW.trod enc Try.prog W 0 sp held fuel 27 cs = some x)
    (R : Nat) (hR : R ≤ 140737488351232) (hz : ∀ n ∈ x.1.weights Try.prog 27, n ≤ R) : ∃ A c xs, cs = [.slice A xs.length c] ∧ Byt xs ∧ xs.length ≤ R ∧ Rd W (fun i => i < W.heap.size) 1 (.slice A xs.length c) xs.length (bts xs) := by
  rcases Go.ChangeShapes.open_ints Try.underlying27 Try.underlying5 bytes_cells hf with ⟨hcs, hx⟩ | ⟨a, len, cap, zs, hcs, _, hl, hm, hzl, hx, hcell, hwz⟩
  · subst hcs
    exact ⟨none, 0, [], rfl, fun x hx => by simp at hx, by simp, Rd.nil _ _ _⟩
  · subst hcs hx
    have hlz : len ≤ zs.length := by rw [hzl]; split <;> omega
    have hw := hz _ (by simp only [DataW.weights, Try.underlying27]; exact List.mem_cons_self)
    rw [bytes_of] at hw
    simp only [lits, List.length_map, List.length_take, List.length_drop] at hw
    have hlen : (zs.take len).length = len := by simp; omega
    refine ⟨some a, cap, zs.take len, by rw [hlen], fun x hx => u8_wf (hwz x (List.mem_of_mem_take hx)), by rw [hlen]; omega, ?_⟩
    rw [hlen]
    refine ⟨by rw [bts_length, hlen]; simp, some a, cap, rfl, hl, hm, fun hn => ?_⟩
    have h0 := cell_spot (hcell 0 (by omega))
    obtain ⟨g, o, s⟩ := a
    have hs : s = none := by have := h0.1; unfold Addr.add at this; split at this <;> simp_all
    subst hs
    refine ⟨g, o, rfl, ?_, fun j u hu => ?_⟩
    · have := h0.2; rwa [addr_add] at this
    · have hj : j < len := by have := (List.getElem?_eq_some_iff.1 hu).1; rwa [bts_length, hlen] at this
      have hc := hcell j (by omega)
      rw [addr_add] at hc
      rw [hc]
      rw [bts_getElem? _ j (by omega)] at hu
      rw [List.getElem_take] at hu
      rw [List.getD_eq_getElem?_getD, List.getElem?_eq_getElem (by omega)]
      simpa using hu
theorem open_call_r {H : Type} {enc : TypeId × Value → H} {W : World} {sp : Nat → Bool} {held : Bool} {fuel : Nat} {cs : List Value} {x : DataW H × List MemPlace} (hf : DataW.trod enc Try.prog W 0 sp held fuel 29 cs = some x)
    (R : Nat) (hR : R ≤ 140737488351232) (hz : ∀ n ∈ x.1.weights Try.prog 29, n ≤ R) : ∃ y : Cl, cs = [.int .i64 y.what, .int .i64 y.n, .int .i64 y.size, .slice y.A y.bs.length y.c] ∧
      I64 y.what ∧ I64 y.n ∧ I64 y.size ∧ Byt y.bs ∧ y.bs.length ≤ R ∧ Rd W (fun i => i < W.heap.size) 1 (.slice y.A y.bs.length y.c) y.bs.length (bts y.bs) := by
  obtain ⟨xs, m, _, rfl, hl, hxl, hfs⟩ := DataW.trod_struct Try.underlying29 hf
  rw [call_cells] at hl
  have g0 := hfs 0 _ rfl
  have g1 := hfs 1 _ rfl
  have g2 := hfs 2 _ rfl
  have g3 := hfs 3 _ rfl
  match cs, hl with
  | [c0, c1, c2, c3], _ =>
    match xs, hxl with
    | [y0, y1, y2, y3], _ =>
      simp [int_cells, row_cells] at g0 g1 g2 g3
      obtain ⟨a, e0, _, w0⟩ := DataW.trod_int Try.underlying3 g0
      obtain ⟨b, e1, _, w1⟩ := DataW.trod_int Try.underlying3 g1
      obtain ⟨c, e2, _, w2⟩ := DataW.trod_int Try.underlying3 g2
      obtain ⟨A, c', bs, e3, hb, hbl, hr⟩ := open_bytes_r g3 R hR (fun n hn => hz n (by simp only [DataW.weights, Try.underlying29]; simp [DataW.weightsEach, hn]))
      simp at e0 e1 e2 e3
      subst e0 e1 e2 e3
      exact ⟨⟨a, b, c, A, c', bs⟩, rfl, i64_wf w0, i64_wf w1, i64_wf w2, hb, hbl, hr⟩

theorem open_calls_r {H : Type} {enc : TypeId × Value → H} {W : World} {base : Nat} {sp : Nat → Bool} {held : Bool} {v : Value} {d : DataW H} {p : List MemPlace} (hv : Value.okWide Try.prog W .any base 22 v) (ht : DataW.Trod enc Try.prog W 0 sp held 22 v d p)
    (R : Nat) (hR : R ≤ 140737488351232) (hz : ∀ n ∈ d.weights Try.prog 22, n ≤ R) : ∃ A c l, v = .slice A l.length c ∧ ClsRd W A c l ∧ ∀ i (h : i < l.length), l[i].bs.length ≤ R := by
  obtain ⟨a1, len1, cap1, rfl⟩ := okWide_slice Try.underlying22 hv
  obtain ⟨fuel, hf⟩ := ht
  rcases Go.Deep.open_slice Try.underlying22 hf with ⟨hcs, hx⟩ | ⟨a, len, cap, m, n, D, Pl, hcs, _, hl, hm, hmm, hx, hel⟩
  · simp [Value.cells] at hcs
    obtain ⟨rfl, rfl, rfl⟩ := hcs
    exact ⟨none, 0, [], rfl, ⟨by simp, by omega, fun i hi => absurd hi (by simp)⟩, fun i hi => absurd hi (by simp)⟩
  · simp [Value.cells] at hcs
    obtain ⟨rfl, rfl, rfl⟩ := hcs
    simp only [Prod.mk.injEq] at hx
    obtain ⟨rfl, _⟩ := hx
    unfold maxLen at hm
    have hlm : len1 ≤ m := by rw [hmm]; split <;> omega
    have hsp : 0 < len1 → a.spot = none := by
      intro h0
      obtain ⟨cs', hc, hd⟩ := hel 0 (by omega)
      rw [call_cells] at hc
      obtain ⟨hcl, hcj⟩ := cells_at hc
      have h := (cell_spot (hcj 0 (by omega))).1
      simpa [Addr.add] using h
    have each : ∀ i, i < len1 → ∃ y : Cl, (∃ g o, a = ⟨g, o, none⟩ ∧ g < W.heap.size ∧ ClAt W g (o + i * 4) y) ∧ y.bs.length ≤ R := by
      intro i hi
      obtain ⟨cs', hc, hd⟩ := hel i (by omega)
      rw [call_cells] at hc
      obtain ⟨hcl, hcj⟩ := cells_at hc
      obtain ⟨y, hy, hw⟩ := open_call_r hd R hR (fun n hn => hz n (by
        simp only [DataW.weights, Try.underlying22]
        refine List.mem_cons_of_mem _ (List.mem_append_left _ (weights_all (List.mem_map.2 ⟨i, by simpa using hi, rfl⟩) n hn))))
      subst hy
      have c0 := hcj 0 (by simp)
      have c1 := hcj 1 (by simp)
      have c2 := hcj 2 (by simp)
      have c3 := hcj 3 (by simp)
      obtain ⟨g, o, s⟩ := a
      have hs : s = none := hsp (by omega)
      subst hs
      rw [addr_add, addr_add] at c0 c1 c2 c3
      have hg := (cell_spot c0).2
      obtain ⟨k1, k2, k3, k4, k5, k6⟩ := hw
      exact ⟨y, ⟨g, o, rfl, hg, ⟨k1, k2, k3, k4, by omega, k6⟩, by simpa using c0, by simpa using c1, by simpa using c2, by simpa using c3⟩, k5⟩
    obtain ⟨l, hll, hq⟩ := list_of _ len1 each
    refine ⟨some a, cap1, l, by rw [hll], ⟨by rw [hll]; exact hl, by omega, fun i hi => ?_⟩, fun i hi => (hq i hi).2⟩
    obtain ⟨⟨g, o, ha, hg, hc⟩, _⟩ := hq i hi
    exact ⟨g, o, by rw [ha], hg, hc⟩

theorem wireRow_walk {H : Type} {enc : TypeId × Value → H} (W : World) {base : Nat} {sp : Nat → Bool} {held : Bool} {v : Value} {d : DataW H} {p : List MemPlace} (hv : Value.okWide Try.prog W .any base 22 v) (ht : DataW.Trod enc Try.prog W 0 sp held 22 v d p) (hz : Rows.uptoBulk d ≤ 1048576) :
    Calls Try.prog 3 #[v] W fun e w' => e = .returned (.bool true) ∧ Below W.heap.size W w' := by
  obtain ⟨A, c, l, rfl, hr, hs⟩ := open_calls_r hv ht 50331648 (by omega) (fun n hn => by have := wt_le clo_calls (by omega) d _ n (.inl rfl) hn; omega)
  exact row_walk W A c l hr hs
end Go.Proofs.Ytodijebpoipeiaa
