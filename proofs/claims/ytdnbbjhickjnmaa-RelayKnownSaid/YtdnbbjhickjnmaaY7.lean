/- The reference's reader: Octets. -/
import Derived.Test.YtdnbbjhickjnmaaY6
namespace Go.Proofs.Ytdnbbjhickjnmaa.Wr
open Go.RowKit
set_option maxRecDepth 20000
set_option linter.unusedVariables false
set_option maxRecDepth 20000
set_option linter.unusedSimpArgs false

theorem unum2 (S : Nat → Prop) (A : Option Addr) (c : Nat) (zs : List Int) (w : World) (hz : zs.length = 2) (hr : Rd w S 1 (.slice A zs.length c) zs.length (bts zs)) (hb : Byt zs) (V : Int) (hV : V = num zs) :
    Calls Try.prog 87 #[.slice A 2 c] w fun e w' => e = .returned (.tuple #[.int .i64 V, .bool true]) ∧ ∃ n, w' = w.drewN n := by
  have h := num_lt hb
  rw [hz] at h
  have h2 : num zs < 9223372036854775808 := Int.lt_of_lt_of_le h (by decide)
  have := unum_any S A c zs w hr hb
  rw [(unum_small h2).1, (unum_small h2).2, ← hV] at this
  rwa [hz] at this

theorem uoct_short (S : Nat → Prop) (p : Nat) (ys : List Int) (most : Int) (w : World) (h : RfAt w S p ys) (h1 : ys.length < 2) :
    Calls Try.prog 68 #[.pointer (some ⟨p, 0, none⟩), .int .i64 most] w fun e w' => e = .returned (.tuple #[.slice none 0 0, .int .i64 3]) ∧ Below w.heap.size w w' := by
  have HH := Lib.hid h
  clear h
  have hq : (ys.length : Int) < 2 := by omega
  go_enter Try.func68, Try.ntmps68
  go_wp2_with fail
  refine (uleft_any S p ys _ HH.out).mono ?_
  rintro e w1 ⟨rfl, hw1⟩
  have hb1 : Below w.heap.size w w1 := by obtain ⟨n, rfl⟩ := hw1; exact BdN (B0 w) n
  clear hw1
  go_wp2_with fail
  go_ret2
  exact ⟨rfl, hb1⟩

set_option maxHeartbeats 2000000 in
theorem uoct_limit (S : Nat → Prop) (p g c : Nat) (pre zs rs : List Int) (most V : Int) (w : World) (hl : pre.length + (2 + rs.length) ≤ 140737488355328) (h2 : S p) (h4 : Blk w p 133 #[.slice (some ⟨g, 0, none⟩) (pre.length + (2 + rs.length)) c, .int .i64 pre.length])
    (h6 : w.ownsRow 0 5 1 (.slice (some ⟨g, 0, none⟩) (pre.length + (zs.length + rs.length)) c) (pre.length + (zs.length + rs.length)) (bts (pre ++ (zs ++ rs)))) (hz : zs.length = 2) (hb : Byt zs) (hV : V = num zs) (hV0 : 0 ≤ V) (hVm : V < 65536) (hU : RfAt w S p (zs ++ rs)) (hm : most < V) :
    Calls Try.prog 68 #[.pointer (some ⟨p, 0, none⟩), .int .i64 most] w fun e w' => e = .returned (.tuple #[.slice none 0 0, .int .i64 5]) ∧ Below w.heap.size w w' := by
  have HB := Lib.hid h4
  have HO := Lib.hid h6
  have HU := Lib.hid hU
  have HBY := Lib.hid (And.intro hz (And.intro hb hV))
  have HS := Lib.hid h2
  have hcap := (Rd.of_own h6).cap.2
  unfold maxLen at hcap
  rw [hz] at hcap
  have q10 : ((zs ++ rs).length : Int) = (2 : Int) + (rs.length : Int) := by simp; omega
  have Q10 := Lib.hid q10
  clear h4 h6 hU hV hb hz q10 h2
  go_enter Try.func68, Try.ntmps68
  go_wp2_with fail
  refine (uleft_any S p (zs ++ rs) _ HU.out).mono ?_
  rintro e w1 ⟨rfl, hw1⟩
  rw [Q10.out]
  have hb1 : Below w.heap.size w w1 := by obtain ⟨n, rfl⟩ := hw1; exact BdN (B0 w) n
  have HB1 := Lib.hid (HB.out.later hb1)
  have HO1 := Lib.hid (own_below HO.out hb1)
  have HBW := Lib.hid hb1
  obtain ⟨x0, x1, f0, f1⟩ := blk2 HB1.out
  have lp1 := HB1.out.lt
  have hq : ¬ ((2 : Int) + (rs.length : Int) < 2) := by omega
  have hk0 : (0 : Int) ≤ (pre.length : Int) := by omega
  have hk1 : (pre.length : Int) + 2 ≤ (c : Int) := by omega
  have hk2 : IntKind.i64.wrap ((pre.length : Int) + 2) = (pre.length : Int) + 2 := by rw [IntKind.wrap_i64]; omega
  have hk2a : IntKind.i64.wrap ((2 : Int) + (rs.length : Int) - 2) = (rs.length : Int) := by rw [IntKind.wrap_i64]; omega
  have hk3 : (pre.length : Int) < (c : Int) := by omega
  have hk4 : ¬ c = pre.length := by omega
  have hk5 : (0 : Int) ≤ (pre.length : Int) + 2 := by omega
  have hk6 : ((pre.length : Int) + 2).toNat = pre.length + 2 := by omega
  have hk7 : (pre.length : Int) ≤ (pre.length : Int) + 2 := by omega
  have hk8 : pre.length ≤ pre.length + 2 := by omega
  have hk9 : pre.length + 2 ≤ c := by omega
  clear hw1 hb1
  go_wp2_with fail
  go_region_held3 (fun w' => w'.cell? ⟨p, 0, none⟩ = some (.slice (some ⟨g, 0, none⟩) (pre.length + (2 + rs.length)) c) ∧ w'.cell? ⟨p, 1, none⟩ = some (.int .i64 pre.length)) (first | (exact ⟨hx2.cell 0, hx2.cell 1⟩) | go_keep)
    ((go_at_call 87; refine (unum2 (fun k => k = g) _ _ zs _ HBY.out.1 ((RfAt.mid HO1.out _ rfl).below (Bd (B0 w1)) (fun i hi => by subst hi; exact own_lt HO1.out _ rfl)) HBY.out.2.1 V HBY.out.2.2).mono ?_; rintro e w2 ⟨rfl, hw2⟩; have hb2 : Below w1.heap.size w1 w2 := (by obtain ⟨n, rfl⟩ := hw2; exact BdN (Bd (B0 w1)) n); have hx2 := HB1.out.later hb2))
  have HX2 := Lib.hid hx2
  have HW2 := Lib.hid (Bt HBW.out hb2)
  obtain ⟨y0, y1, z0, z1⟩ := blk2 HX2.out
  have lp2 := HX2.out.lt
  clear hb2 hx2 hw2
  go_wp2_with fail
  go_ret2
  exact ⟨rfl, HW2.out⟩

set_option maxHeartbeats 2000000 in
theorem uoct_long (S : Nat → Prop) (p g c : Nat) (pre zs rs : List Int) (most V : Int) (w : World) (hl : pre.length + (2 + rs.length) ≤ 140737488355328) (h2 : S p) (h4 : Blk w p 133 #[.slice (some ⟨g, 0, none⟩) (pre.length + (2 + rs.length)) c, .int .i64 pre.length])
    (h6 : w.ownsRow 0 5 1 (.slice (some ⟨g, 0, none⟩) (pre.length + (zs.length + rs.length)) c) (pre.length + (zs.length + rs.length)) (bts (pre ++ (zs ++ rs)))) (hz : zs.length = 2) (hb : Byt zs) (hV : V = num zs) (hV0 : 0 ≤ V) (hVm : V < 65536) (hU : RfAt w S p (zs ++ rs)) (hm : ¬ most < V) (hn : (rs.length : Int) < V) :
    Calls Try.prog 68 #[.pointer (some ⟨p, 0, none⟩), .int .i64 most] w fun e w' => e = .returned (.tuple #[.slice none 0 0, .int .i64 3]) ∧ Below w.heap.size w w' := by
  have HB := Lib.hid h4
  have HO := Lib.hid h6
  have HU := Lib.hid hU
  have HBY := Lib.hid (And.intro hz (And.intro hb hV))
  have HS := Lib.hid h2
  have hcap := (Rd.of_own h6).cap.2
  unfold maxLen at hcap
  rw [hz] at hcap
  have q10 : ((zs ++ rs).length : Int) = (2 : Int) + (rs.length : Int) := by simp; omega
  have Q10 := Lib.hid q10
  clear h4 h6 hU hV hb hz q10 h2
  go_enter Try.func68, Try.ntmps68
  go_wp2_with fail
  refine (uleft_any S p (zs ++ rs) _ HU.out).mono ?_
  rintro e w1 ⟨rfl, hw1⟩
  rw [Q10.out]
  have hb1 : Below w.heap.size w w1 := by obtain ⟨n, rfl⟩ := hw1; exact BdN (B0 w) n
  have HB1 := Lib.hid (HB.out.later hb1)
  have HO1 := Lib.hid (own_below HO.out hb1)
  have HBW := Lib.hid hb1
  obtain ⟨x0, x1, f0, f1⟩ := blk2 HB1.out
  have lp1 := HB1.out.lt
  have hq : ¬ ((2 : Int) + (rs.length : Int) < 2) := by omega
  have hk0 : (0 : Int) ≤ (pre.length : Int) := by omega
  have hk1 : (pre.length : Int) + 2 ≤ (c : Int) := by omega
  have hk2 : IntKind.i64.wrap ((pre.length : Int) + 2) = (pre.length : Int) + 2 := by rw [IntKind.wrap_i64]; omega
  have hk2a : IntKind.i64.wrap ((2 : Int) + (rs.length : Int) - 2) = (rs.length : Int) := by rw [IntKind.wrap_i64]; omega
  have hk3 : (pre.length : Int) < (c : Int) := by omega
  have hk4 : ¬ c = pre.length := by omega
  have hk5 : (0 : Int) ≤ (pre.length : Int) + 2 := by omega
  have hk6 : ((pre.length : Int) + 2).toNat = pre.length + 2 := by omega
  have hk7 : (pre.length : Int) ≤ (pre.length : Int) + 2 := by omega
  have hk8 : pre.length ≤ pre.length + 2 := by omega
  have hk9 : pre.length + 2 ≤ c := by omega
  clear hw1 hb1
  go_wp2_with fail
  go_region_held3 (fun w' => w'.cell? ⟨p, 0, none⟩ = some (.slice (some ⟨g, 0, none⟩) (pre.length + (2 + rs.length)) c) ∧ w'.cell? ⟨p, 1, none⟩ = some (.int .i64 pre.length)) (first | (exact ⟨hx2.cell 0, hx2.cell 1⟩) | go_keep)
    ((go_at_call 87; refine (unum2 (fun k => k = g) _ _ zs _ HBY.out.1 ((RfAt.mid HO1.out _ rfl).below (Bd (B0 w1)) (fun i hi => by subst hi; exact own_lt HO1.out _ rfl)) HBY.out.2.1 V HBY.out.2.2).mono ?_; rintro e w2 ⟨rfl, hw2⟩; have hb2 : Below w1.heap.size w1 w2 := (by obtain ⟨n, rfl⟩ := hw2; exact BdN (Bd (B0 w1)) n); have hx2 := HB1.out.later hb2))
  have HX2 := Lib.hid hx2
  have HW2 := Lib.hid (Bt HBW.out hb2)
  obtain ⟨y0, y1, z0, z1⟩ := blk2 HX2.out
  have lp2 := HX2.out.lt
  clear hb2 hx2 hw2
  go_wp2_with fail
  refine (uleft_any S p (zs ++ rs) _ (HU.out.below HW2.out)).mono ?_
  rintro e w3 ⟨rfl, hw3⟩
  rw [Q10.out]
  have hb3 : Below w2.heap.size w2 w3 := by obtain ⟨n, rfl⟩ := hw3; exact BdN (B0 w2) n
  have HX3 := Lib.hid (HX2.out.later hb3)
  have HW3 := Lib.hid (Bt HW2.out hb3)
  obtain ⟨u0, u1, v0, v1⟩ := blk2 HX3.out
  have lp3 := HX3.out.lt
  clear hw3 hb3
  go_wp2_with fail
  go_ret2
  exact ⟨rfl, HW3.out⟩

set_option maxHeartbeats 2000000 in
theorem uoct_ok (S : Nat → Prop) (p g c : Nat) (pre zs rs : List Int) (most V : Int) (w : World) (hl : pre.length + (2 + rs.length) ≤ 140737488355328) (h2 : S p) (h4 : Blk w p 133 #[.slice (some ⟨g, 0, none⟩) (pre.length + (2 + rs.length)) c, .int .i64 pre.length])
    (h6 : w.ownsRow 0 5 1 (.slice (some ⟨g, 0, none⟩) (pre.length + (zs.length + rs.length)) c) (pre.length + (zs.length + rs.length)) (bts (pre ++ (zs ++ rs)))) (hz : zs.length = 2) (hb : Byt zs) (hV : V = num zs) (hV0 : 0 ≤ V) (hVm : V < 65536) (hU : RfAt w S p (zs ++ rs)) (hS : ∀ i, S i → i < w.heap.size) (h7 : S g) (hm : ¬ most < V) (hn : ¬ (rs.length : Int) < V) :
    Calls Try.prog 68 #[.pointer (some ⟨p, 0, none⟩), .int .i64 most] w fun e w' => ∃ A' c', e = .returned (.tuple #[.slice A' (bytV rs V).length c', .int .i64 (bytE rs V)]) ∧ w'.ownsRow w.heap.size 5 1 (.slice A' (bytV rs V).length c') (bytV rs V).length (bts (bytV rs V)) ∧ FDid S p (bytL rs V) w w' := by
  have HB := Lib.hid h4
  have HO := Lib.hid h6
  have HU := Lib.hid hU
  have HBY := Lib.hid (And.intro hz (And.intro hb hV))
  have HS := Lib.hid h2
  have hcap := (Rd.of_own h6).cap.2
  unfold maxLen at hcap
  rw [hz] at hcap
  have q10 : ((zs ++ rs).length : Int) = (2 : Int) + (rs.length : Int) := by simp; omega
  have Q10 := Lib.hid q10
  clear h4 h6 hU hV hb hz q10 h2
  go_enter Try.func68, Try.ntmps68
  go_wp2_with fail
  refine (uleft_any S p (zs ++ rs) _ HU.out).mono ?_
  rintro e w1 ⟨rfl, hw1⟩
  rw [Q10.out]
  have hb1 : Below w.heap.size w w1 := by obtain ⟨n, rfl⟩ := hw1; exact BdN (B0 w) n
  have HB1 := Lib.hid (HB.out.later hb1)
  have HO1 := Lib.hid (own_below HO.out hb1)
  have HBW := Lib.hid hb1
  obtain ⟨x0, x1, f0, f1⟩ := blk2 HB1.out
  have lp1 := HB1.out.lt
  have hq : ¬ ((2 : Int) + (rs.length : Int) < 2) := by omega
  have hk0 : (0 : Int) ≤ (pre.length : Int) := by omega
  have hk1 : (pre.length : Int) + 2 ≤ (c : Int) := by omega
  have hk2 : IntKind.i64.wrap ((pre.length : Int) + 2) = (pre.length : Int) + 2 := by rw [IntKind.wrap_i64]; omega
  have hk2a : IntKind.i64.wrap ((2 : Int) + (rs.length : Int) - 2) = (rs.length : Int) := by rw [IntKind.wrap_i64]; omega
  have hk3 : (pre.length : Int) < (c : Int) := by omega
  have hk4 : ¬ c = pre.length := by omega
  have hk5 : (0 : Int) ≤ (pre.length : Int) + 2 := by omega
  have hk6 : ((pre.length : Int) + 2).toNat = pre.length + 2 := by omega
  have hk7 : (pre.length : Int) ≤ (pre.length : Int) + 2 := by omega
  have hk8 : pre.length ≤ pre.length + 2 := by omega
  have hk9 : pre.length + 2 ≤ c := by omega
  clear hw1 hb1
  go_wp2_with fail
  go_region_held3 (fun w' => w'.cell? ⟨p, 0, none⟩ = some (.slice (some ⟨g, 0, none⟩) (pre.length + (2 + rs.length)) c) ∧ w'.cell? ⟨p, 1, none⟩ = some (.int .i64 pre.length)) (first | (exact ⟨hx2.cell 0, hx2.cell 1⟩) | go_keep)
    ((go_at_call 87; refine (unum2 (fun k => k = g) _ _ zs _ HBY.out.1 ((RfAt.mid HO1.out _ rfl).below (Bd (B0 w1)) (fun i hi => by subst hi; exact own_lt HO1.out _ rfl)) HBY.out.2.1 V HBY.out.2.2).mono ?_; rintro e w2 ⟨rfl, hw2⟩; have hb2 : Below w1.heap.size w1 w2 := (by obtain ⟨n, rfl⟩ := hw2; exact BdN (Bd (B0 w1)) n); have hx2 := HB1.out.later hb2))
  have HX2 := Lib.hid hx2
  have HW2 := Lib.hid (Bt HBW.out hb2)
  obtain ⟨y0, y1, z0, z1⟩ := blk2 HX2.out
  have lp2 := HX2.out.lt
  clear hb2 hx2 hw2
  go_wp2_with fail
  refine (uleft_any S p (zs ++ rs) _ (HU.out.below HW2.out)).mono ?_
  rintro e w3 ⟨rfl, hw3⟩
  rw [Q10.out]
  have hb3 : Below w2.heap.size w2 w3 := by obtain ⟨n, rfl⟩ := hw3; exact BdN (B0 w2) n
  have HX3 := Lib.hid (HX2.out.later hb3)
  have HW3 := Lib.hid (Bt HW2.out hb3)
  obtain ⟨u0, u1, v0, v1⟩ := blk2 HX3.out
  have lp3 := HX3.out.lt
  clear hw3 hb3
  go_wp2_with fail
  have hf := RfAt.moved (W := w3) (p := p) (pre := pre) (zs := zs) (rs := rs) (A := some ⟨g, 0, none⟩) (c := c) (S := S) (fun i hi => Nat.lt_of_lt_of_le (hS i hi) HW3.out.size) (by rw [List.length_append, HBY.out.1]; exact hl) HS.out (by rw [List.length_append, HBY.out.1]; exact HX3.out) (by rw [List.length_append]; exact own_below HO.out HW3.out) (fun k hk => (show g = k by simpa [Value.ownBlock] using hk) ▸ h7) ((pre.length : Int) + 2) (by rw [HBY.out.1]; rfl)
  refine (ubytes_any S p rs V _ hf).mono ?_
  rintro e w4 ⟨A', c', rfl, ho, hd⟩
  have HO4 := Lib.hid ho
  have HD4 := Lib.hid hd
  have hz4 := HW3.out.size
  clear ho hd hf
  go_wp2_with fail
  go_ret2
  exact ⟨A', c', rfl, own_mod HO4.out (Mod.refl (fun _ => False) _) (fun _ _ h => h) (by simpa using hz4), ((Mod.of_below HW3.out).setCell (.inl HS.out) _).trans HD4.out.1 (fun i hi => .inl hi), HD4.out.2⟩

theorem uoctets_any (S : Nat → Prop) (p : Nat) (ys : List Int) (most : Int) (w : World) (h : RfAt w S p ys) (hb : Byt ys) :
    Calls Try.prog 68 #[.pointer (some ⟨p, 0, none⟩), .int .i64 most] w fun e w' => ∃ A' c', e = .returned (.tuple #[.slice A' (roV ys most).length c', .int .i64 (roE ys most)]) ∧ w'.ownsRow w.heap.size 5 1 (.slice A' (roV ys most).length c') (roV ys most).length (bts (roV ys most)) ∧ FDid S p (roL ys most) w w' := by
  have bad : ∀ E : Int, E ≠ 0 → roE ys most = E → (Calls Try.prog 68 #[.pointer (some ⟨p, 0, none⟩), .int .i64 most] w fun e w' => e = .returned (.tuple #[.slice none 0 0, .int .i64 E]) ∧ Below w.heap.size w w') →
      Calls Try.prog 68 #[.pointer (some ⟨p, 0, none⟩), .int .i64 most] w fun e w' => ∃ A' c', e = .returned (.tuple #[.slice A' (roV ys most).length c', .int .i64 (roE ys most)]) ∧ w'.ownsRow w.heap.size 5 1 (.slice A' (roV ys most).length c') (roV ys most).length (bts (roV ys most)) ∧ FDid S p (roL ys most) w w' := by
    intro E hE he hc
    rw [roV, roL, he, if_neg hE, if_neg hE]
    refine hc.mono ?_
    rintro e w' ⟨rfl, hr⟩
    exact ⟨none, 0, rfl, World.ownsRow_nil _ _ _ _, fdid_same h hr⟩
  by_cases h2 : ys.length < 2
  · exact bad 3 (by omega) (by simp [roE, h2]) (uoct_short S p ys most w h h2)
  · have hz : (ys.take 2).length = 2 := by simp; omega
    obtain ⟨zs, hzs⟩ : ∃ zs, zs = ys.take 2 := ⟨_, rfl⟩
    obtain ⟨rs, hrs⟩ : ∃ rs, rs = ys.drop 2 := ⟨_, rfl⟩
    have e : ys = zs ++ rs := by rw [hzs, hrs, List.take_append_drop]
    have hbz : Byt zs := hzs ▸ hb.take 2
    have hlen : ys.length = 2 + rs.length := by rw [e, List.length_append, hzs, hz]
    rw [← hzs] at hz
    have hV0 := num_nonneg hbz
    have hVm : num zs < 65536 := by
      have := num_lt hbz
      rw [hz] at this
      exact Int.lt_of_lt_of_le this (by decide)
    have hroE : roE ys most = if most < num zs then 5 else if (rs.length : Int) < num zs then 3 else 0 := by
      rw [roE, if_neg h2, ← hzs, show (ys.length : Int) - 2 = rs.length by omega]
    have hh := h
    rw [e] at hh
    have hh0 := hh
    obtain ⟨hS, A, c, pre, hl, h3, h4, h6, h7⟩ := hh
    rw [List.length_append] at hl h4 h6 h7
    have hown := h6
    obtain ⟨g, cc, hv, _⟩ := h6.form (by omega)
    injection hv with e1 e2 e3
    subst e1
    have h4' : Blk w p 133 #[.slice (some ⟨g, 0, none⟩) (pre.length + (2 + rs.length)) c, .int .i64 pre.length] := by rw [← hz]; exact h4
    by_cases hm : most < num zs
    · exact bad 5 (by omega) (by rw [hroE, if_pos hm]) (uoct_limit S p g c pre zs rs most (num zs) w (by omega) h3 h4' hown hz hbz rfl hV0 hVm hh0 hm)
    · by_cases hn : (rs.length : Int) < num zs
      · exact bad 3 (by omega) (by rw [hroE, if_neg hm, if_pos hn]) (uoct_long S p g c pre zs rs most (num zs) w (by omega) h3 h4' hown hz hbz rfl hV0 hVm hh0 hm hn)
      · have he : roE ys most = 0 := by rw [hroE, if_neg hm, if_neg hn]
        have hbe : bytE rs (num zs) = 0 := by rw [bytE, if_neg (by omega), if_neg hn]
        have := uoct_ok S p g c pre zs rs most (num zs) w (by omega) h3 h4' hown hz hbz rfl hV0 hVm hh0 hS (h7 g (by simp [Value.ownBlock])) hm hn
        rw [bytV, bytL, hbe, if_pos rfl, if_pos rfl] at this
        rw [roV, roL, he, if_pos rfl, if_pos rfl, ← hzs, ← hrs]
        exact this
end Go.Proofs.Ytdnbbjhickjnmaa.Wr
