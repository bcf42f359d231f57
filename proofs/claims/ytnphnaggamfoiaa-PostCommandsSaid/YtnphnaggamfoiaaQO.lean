/- O1, O2, O3, O4 in one text. -/
import Derived.Test.YtnphnaggamfoiaaL0
import Derived.Deep.RegionHeld3
import Derived.Deep.OwnRows
import Derived.Deep.QuietTactic
import Derived.Test.YtnphnaggamfoiaaQC
namespace Go.Proofs.Ytnphnaggamfoiaa
open Go.RowKit
set_option maxRecDepth 20000
set_option linter.unusedVariables false
set_option linter.unusedSimpArgs false
section
theorem ofInt_nat (a : Nat) (ha : a < 9223372036854775808) : (BitVec.ofInt 64 (a : Int)).toNat = a := by
  rw [BitVec.ofInt_natCast, BitVec.toNat_ofNat]; exact Nat.mod_eq_of_lt (by omega)
theorem or_nat (a b : Nat) (ha : a < 9223372036854775808) (hb : b < 9223372036854775808) : bits .or .i64 (a : Int) (b : Int) = ((a ||| b : Nat) : Int) := by
  have hx : a ||| b < 2 ^ 63 := Nat.or_lt_two_pow (by omega) (by omega)
  show IntKind.i64.wrap ((BitVec.ofInt 64 (a : Int) ||| BitVec.ofInt 64 (b : Int)).toNat : Int) = _
  rw [BitVec.toNat_or, ofInt_nat a ha, ofInt_nat b hb, IntKind.wrap_i64]
  omega
theorem or_step (n x : Int) (h0 : 0 ≤ n) (h1 : n < 36028797018963968) (x0 : 0 ≤ x) (x1 : x < 256) : bits .or .i64 (n * 256) x = n * 256 + x := by
  obtain ⟨a, rfl⟩ := Int.eq_ofNat_of_zero_le h0
  obtain ⟨b, rfl⟩ := Int.eq_ofNat_of_zero_le x0
  have e : ((a : Int) * 256) = ((a * 256 : Nat) : Int) := by omega
  have e2 : a * 256 + b = a * 256 ||| b := by
    have := Nat.shiftLeft_add_eq_or_of_lt (i := 8) (b := b) (by omega) a
    rwa [Nat.shiftLeft_eq] at this
  rw [e, or_nat _ _ (by omega) (by omega), ← e2]
  omega

/-- A reader of the document's: its block r, the blocks S of its bytes. -/
def DrAt (w : World) (S : Nat → Prop) (r : Nat) (s : St) : Prop :=
  (∀ i, S i → i < w.heap.size) ∧ ¬ S r ∧ s.Ok ∧ s.l.length ≤ 140737488351232 ∧ ∃ A c, Blk w r 83 #[.slice A s.l.length c, .int .i64 s.e] ∧ Rd w S 1 (.slice A s.l.length c) s.l.length (bts s.l)
theorem DrAt.kept {w w' : World} {S G : Nat → Prop} {r : Nat} {s : St} (h : DrAt w S r s) (hm : Mod G w w') (hd : ∀ i, S i → ¬ G i) (hr : ¬ G r) : DrAt w' S r s := by
  obtain ⟨h1, h2, h3, h4, A, c, h5, h6⟩ := h
  exact ⟨fun i hi => Nat.lt_of_lt_of_le (h1 i hi) hm.size, h2, h3, h4, A, c, h5.kept hm hr, h6.kept hm hd⟩
theorem DrAt.below {w w' : World} {S : Nat → Prop} {r : Nat} {s : St} (h : DrAt w S r s) (hb : Below w.heap.size w w') : DrAt w' S r s :=
  h.kept (Mod.of_below (S := fun _ => False) hb) (fun _ _ h => h) (fun h => h)
theorem DrAt.lt {w : World} {S : Nat → Prop} {r : Nat} {s : St} (h : DrAt w S r s) : r < w.heap.size := by obtain ⟨_, _, _, _, A, c, h5, _⟩ := h; exact h5.lt
/-- Behind a call that reads. -/
def DrDid (S : Nat → Prop) (r : Nat) (s : St) (w w' : World) : Prop := DrAt w' S r s ∧ Mod (fun i => i = r) w w'

/-- Behind a call that reads and answers nothing. -/
def DrOnly (S : Nat → Prop) (r : Nat) (s : St) (w : World) (e : Ending) (w' : World) : Prop := e = .returned (.tuple #[]) ∧ DrDid S r s w w'
theorem dbad_any (S : Nat → Prop) (r : Nat) (b : Bool) (E : Int) (s : St) (w : World) (h : DrAt w S r s) :
    Calls Try.prog 56 #[.pointer (some ⟨r, 0, none⟩), .bool b, .int .i64 E] w (DrOnly S r (s.fail b E) w) := by
  have H := Lib.hid h
  obtain ⟨h1, h2, h3, h4, A, c, h5, h6⟩ := h
  obtain ⟨y0, y1, z0, z1⟩ := blk2 h5
  have lr := h5.lt
  by_cases h0 : s.e = 0
  · rw [h0] at y1
    cases b
    · clear h1 h2 h3 h4 h5 h6 h0
      go_enter Try.func56, Try.ntmps56
      go_wp2_with fail
      refine bodyPost_ret (v := .tuple #[]) (by simp [results, Try.results56, go_sem]) rfl ?_
      exact ⟨rfl, H.out, Mod.refl _ _⟩
    · have HF := Lib.hid (show DrDid S r (s.fail true E) w (w.setCell ⟨r, 1, none⟩ (.int .i64 E)) by
        have hm : Mod (fun i => i = r) w (w.setCell ⟨r, 1, none⟩ (.int .i64 E)) := (Mod.refl (fun i => i = r) w).setCell (p := ⟨r, 1, none⟩) (.inl rfl) _
        have he : s.fail true E = ⟨s.l, E⟩ := by unfold St.fail; rw [if_pos rfl, if_pos h0]
        rw [he]
        exact ⟨⟨fun i hi => Nat.lt_of_lt_of_le (h1 i hi) hm.size, h2, h3, h4, A, c, h5.set_ 1 _, h6.kept hm (fun i hi e => h2 (e ▸ hi))⟩, hm⟩)
      clear h1 h2 h3 h4 h5 h6 h0
      go_enter Try.func56, Try.ntmps56
      go_wp2_with fail
      refine bodyPost_ret (v := .tuple #[]) (by simp [results, Try.results56, go_sem]) rfl ?_
      exact ⟨rfl, HF.out⟩
  · have hq : (s.e == 0) = false := by simpa using h0
    rw [St.fail_bad h0]
    clear h1 h2 h3 h4 h5 h6 h0
    go_enter Try.func56, Try.ntmps56
    go_wp2_with fail
    refine bodyPost_ret (v := .tuple #[]) (by simp [results, Try.results56, go_sem]) rfl ?_
    exact ⟨rfl, H.out, Mod.refl _ _⟩
end

section
theorem rd_head {w : World} {S : Nat → Prop} {A : Option Addr} {c : Nat} {ys : List Int} (h : Rd w S 1 (.slice A ys.length c) ys.length (bts ys)) {k : Nat} (hk : k ≤ ys.length) : Rd w S 1 (.slice A (ys.take k).length c) (ys.take k).length (bts (ys.take k)) := by
  obtain ⟨hl, A', c', he, h1, h2, h3⟩ := h
  injection he with e1 e2 e3
  subst e1 e3
  have hlt : (ys.take k).length = k := by simp; omega
  refine ⟨by simp [bts], A, c, rfl, by omega, h2, fun h0 => ?_⟩
  obtain ⟨g, o, rfl, hs, hc⟩ := h3 (by omega)
  refine ⟨g, o, rfl, hs, fun j u hu => hc j u ?_⟩
  have hj : j < (bts (ys.take k)).length := by
    rcases Nat.lt_or_ge j (bts (ys.take k)).length with h | h
    · exact h
    · rw [List.getElem?_eq_none h] at hu; cases hu
  rw [bts_length, hlt] at hj
  have e : bts (ys.take k) = (bts ys).take k := by simp [bts, List.map_take]
  rw [e, List.getElem?_take_of_lt hj] at hu
  exact hu
theorem rd_rest {w : World} {S : Nat → Prop} {a : Addr} {c : Nat} {ys : List Int} {k : Nat} (h : Rd w S 1 (.slice (some a) ys.length c) ys.length (bts ys)) (hk : k ≤ ys.length) (a' : Option Addr) (ha : a' = some (a.add k) ∨ c = k) :
    Rd w S 1 (.slice a' (ys.drop k).length (c - k)) (ys.drop k).length (bts (ys.drop k)) := by
  have e : (ys.take k).length = k := by simp; omega
  have e2 : (ys.take k).length + (ys.drop k).length = ys.length := by simp; omega
  have := Wr.rd_tail (ys.take k) (ys.drop k) (by rw [e2, List.take_append_drop]; exact h) a' (by rw [e]; exact ha)
  rwa [e] at this

/-- What the reader answers with bytes. -/
def TkDid (S : Nat → Prop) (r : Nat) (xs : List Int) (s : St) (w : World) (e : Ending) (w' : World) : Prop :=
  ∃ A c, e = .returned (.slice A xs.length c) ∧ Rd w' S 1 (.slice A xs.length c) xs.length (bts xs) ∧ DrDid S r s w w'

theorem tk_end {w w1 : World} {S : Nat → Prop} {r n c : Nat} {A a' : Option Addr} {l : List Int} {e : Int} (hS : ∀ i, S i → i < w1.heap.size) (hr : ¬ S r) (hok : St.Ok ⟨l.drop n, 0⟩) (hl : l.length ≤ 140737488351232) (hn : n ≤ l.length) (he : e = 0)
    (h5 : Blk w1 r 83 #[.slice A l.length c, .int .i64 e]) (h6 : Rd w1 S 1 (.slice A l.length c) l.length (bts l)) (hm : Mod (fun i => i = r) w w1)
    (ha : (A = none ∧ a' = none) ∨ ∃ a, A = some a ∧ (a' = some (a.add n) ∨ c = n)) (v : Value) (hv : v = .slice A n c) (u : Value) (hu : u = .slice a' (l.length - n) (c - n)) :
    TkDid S r (l.take n) ⟨l.drop n, 0⟩ w (.returned v) (w1.setCell ⟨r, 0, none⟩ u) := by
  subst he hv hu
  have e1 : (l.take n).length = n := by simp; omega
  have e2 : (l.drop n).length = l.length - n := by simp
  have m1 : Mod (fun i => i = r) w1 (w1.setCell ⟨r, 0, none⟩ (.slice a' (l.length - n) (c - n))) := (Mod.refl (fun i => i = r) w1).setCell (p := ⟨r, 0, none⟩) (.inl rfl) _
  have hd : ∀ i, S i → ¬ i = r := fun i hi e => hr (e ▸ hi)
  have hh := rd_head h6 hn
  have ht : Rd w1 S 1 (.slice a' (l.drop n).length (c - n)) (l.drop n).length (bts (l.drop n)) := by
    rcases ha with ⟨rfl, rfl⟩ | ⟨a, rfl, ha⟩
    · have hz : l.length = 0 := by
        rcases Nat.eq_zero_or_pos l.length with h0 | h0
        · exact h0
        · obtain ⟨g, o, he, _⟩ := h6.some_ h0; cases he
      have hc := h6.cap
      exact ⟨by simp [bts], none, c - n, rfl, by omega, by omega, fun h => by omega⟩
    · exact rd_rest h6 hn a' ha
  refine ⟨A, c, by rw [e1], hh.kept m1 hd, ⟨fun i hi => by simpa using hS i hi, hr, hok, by simp only; omega, a', c - n, ?_, ht.kept m1 hd⟩, hm.trans m1 (fun i hi => .inl hi)⟩
  have := h5.set_ 0 (.slice a' (l.length - n) (c - n))
  rw [← e2] at this
  rw [← e2]
  exact this
set_option maxHeartbeats 1000000 in
theorem dtake_any (S : Nat → Prop) (r n : Nat) (s : St) (w : World) (h : DrAt w S r s) (hn : n ≤ 140737488351232) :
    Calls Try.prog 57 #[.pointer (some ⟨r, 0, none⟩), .int .i64 n] w (TkDid S r (s.some n) (s.sk n) w) := by
  have H := Lib.hid h
  obtain ⟨h1, h2, h3, h4, A, c, h5, h6⟩ := h
  obtain ⟨y0, y1, z0, z1⟩ := blk2 h5
  have lr := h5.lt
  have hcap := h6.cap
  unfold maxLen at hcap
  obtain ⟨_, hc1, hc2⟩ := hcap
  clear h1 h2 h3 h5 h6
  go_enter Try.func57, Try.ntmps57
  go_wp2_with fail
  refine (dbad_any S r (decide (s.l.length < n)) 3 s w H.out).mono ?_
  rintro e w1 ⟨rfl, hd, hm⟩
  have HM := Lib.hid hm
  have HD := Lib.hid hd
  clear hd hm y0 y1 z0 z1 lr
  by_cases h0 : s.e = 0
  · by_cases hl : s.l.length < n
    · have hs : s.fail (decide (s.l.length < n)) 3 = ⟨s.l, 3⟩ := by unfold St.fail; rw [if_pos (by simpa using hl), if_pos h0]
      have hE : Wr.bytE s.l n = 3 := by unfold Wr.bytE; rw [if_neg (by omega), if_pos (by omega)]
      have hk : s.sk n = ⟨s.l, 3⟩ := by unfold St.sk Wr.bytL; rw [if_pos h0, hE, if_neg (by decide)]
      have hv : s.some n = [] := by unfold St.some Wr.bytV; rw [if_pos h0, hE, if_neg (by decide)]
      rw [hs] at HD
      have HSK := Lib.hid (And.intro hk hv)
      have hd := HD.out
      obtain ⟨_, _, _, _, A, c, h5, _⟩ := hd
      obtain ⟨y0, y1, z0, z1⟩ := blk2 h5
      have lr := h5.lt
      clear hs hE hk hv h5 h0
      go_wp2_with fail
      go_ret
      rw [HSK.out.1, HSK.out.2]
      exact ⟨_, _, rfl, Rd.nil _ _ _, HD.out, HM.out⟩
    · have hs : s.fail (decide (s.l.length < n)) 3 = s := by unfold St.fail; rw [if_neg (by simpa using hl)]
      have hE : Wr.bytE s.l n = 0 := by unfold Wr.bytE; rw [if_neg (by omega), if_neg (by omega)]
      have hk : s.sk n = ⟨s.l.drop n, 0⟩ := by unfold St.sk Wr.bytL; rw [if_pos h0, hE, if_pos rfl, Int.toNat_natCast]
      have hv : s.some n = s.l.take n := by unfold St.some Wr.bytV; rw [if_pos h0, hE, if_pos rfl, Int.toNat_natCast]
      rw [hs] at HD
      have HSK := Lib.hid (And.intro hk hv)
      have hd := HD.out
      obtain ⟨i1, i2, i3, i4, A, c, h5, h6⟩ := hd
      obtain ⟨y0, y1, z0, z1⟩ := blk2 h5
      have lr := h5.lt
      have hcap := h6.cap
      unfold maxLen at hcap
      obtain ⟨_, hc1, hc2⟩ := hcap
      have hnl : n ≤ s.l.length := by omega
      have HK := Lib.hid h5
      have HRD := Lib.hid h6
      have h6' := h6
      rw [h0] at y1
      have HL := Lib.hid (And.intro i1 (And.intro i2 (show St.Ok ⟨s.l.drop n, 0⟩ from i3.drop n)))
      have e1 : (s.l.take n).length = n := by simp; omega
      have e2 : (s.l.drop n).length = s.l.length - n := by simp
      have HEQ := Lib.hid (And.intro h0 (And.intro e1 e2))
      clear hs hE hk hv h5 h6 h0 i1 i2 i3 e1 e2
      rcases A with _ | a
      · have hz : s.l.length = 0 := by
          rcases Nat.eq_zero_or_pos s.l.length with h0 | h0
          · exact h0
          · obtain ⟨g, o, he, _⟩ := h6'.some_ h0; cases he
        obtain rfl : n = 0 := by omega
        have hle : s.l = [] := List.eq_nil_of_length_eq_zero hz
        simp only [hz] at y0 hc1
        clear h6'
        go_wp2_with fail
        all_goals
          go_ret
          rw [HSK.out.1, HSK.out.2]
          exact tk_end HL.out.1 HL.out.2.1 HL.out.2.2 i4 hnl HEQ.out.1 HK.out HRD.out HM.out (.inl ⟨rfl, rfl⟩) _ rfl _ (by simp [hz])
      · clear h6'
        obtain ⟨g, o, j⟩ := a
        go_wp2_with fail
        all_goals
          go_ret
          rw [HSK.out.1, HSK.out.2]
          first
            | exact tk_end HL.out.1 HL.out.2.1 HL.out.2.2 i4 hnl HEQ.out.1 HK.out HRD.out HM.out (.inr ⟨_, rfl, .inl rfl⟩) _ rfl _ rfl
            | (subst_vars; exact tk_end HL.out.1 HL.out.2.1 HL.out.2.2 i4 hnl HEQ.out.1 HK.out HRD.out HM.out (.inr ⟨_, rfl, .inr rfl⟩) _ rfl _ (by rw [Nat.sub_self]))
  · have hs : s.fail (decide (s.l.length < n)) 3 = s := St.fail_bad h0 _ _
    have hq : (s.e != 0) = true := by simpa using h0
    have hv : s.some n = [] := by unfold St.some; rw [if_neg h0]
    rw [hs] at HD
    have HSK := Lib.hid (And.intro (St.sk_bad h0 n) hv)
    have hd := HD.out
    obtain ⟨_, _, _, _, A, c, h5, _⟩ := hd
    obtain ⟨y0, y1, z0, z1⟩ := blk2 h5
    have lr := h5.lt
    clear hs hv h5 h0
    go_wp2_with fail
    go_ret
    rw [HSK.out.1, HSK.out.2]
    exact ⟨_, _, rfl, Rd.nil _ _ _, HD.out, HM.out⟩
end

section
theorem St.nx_sk {s : St} {n : Nat} (hn : Sz n) (hb : s.Ok) : s.nx n = s.sk n := by
  have hg := getE_sz hn hb
  have hE : Wr.bytE s.l n = if s.l.length < n then 3 else 0 := by
    unfold Wr.bytE
    rw [if_neg (by omega)]
    by_cases h : s.l.length < n
    · rw [if_pos (by omega), if_pos h]
    · rw [if_neg (by omega), if_neg h]
  unfold St.nx St.sk
  by_cases h0 : s.e = 0
  · rw [if_pos h0, if_pos h0, hg, hE]
    unfold Wr.getL Wr.bytL
    rw [hg, hE]
  · rw [if_neg h0, if_neg h0]
theorem St.num_some {s : St} {n : Nat} (hn : Sz n) (hb : s.Ok) : s.num n = Wr.num (s.some n) ∧ (s.some n).length ≤ 7 ∧ Byt (s.some n) := by
  have hg := getE_sz hn hb
  have h8 := hn.rng
  have h7 : n ≤ 7 := by unfold Sz at hn; omega
  unfold St.num St.some
  by_cases h0 : s.e = 0
  · rw [if_pos h0, if_pos h0]
    unfold Wr.getV Wr.bytV
    have hE : Wr.bytE s.l n = if s.l.length < n then 3 else 0 := by
      unfold Wr.bytE
      rw [if_neg (by omega)]
      by_cases h : s.l.length < n
      · rw [if_pos (by omega), if_pos h]
      · rw [if_neg (by omega), if_neg h]
    rw [hg, hE]
    by_cases h : s.l.length < n
    · rw [if_pos h, if_neg (by decide), if_neg (by decide)]
      exact ⟨by simp [Wr.num], by simp, by intro x hx; simp at hx⟩
    · rw [if_neg h, if_pos rfl, if_pos rfl, Int.toNat_natCast]
      exact ⟨rfl, by simp; omega, Byt.take hb n⟩
  · rw [if_neg h0, if_neg h0]
    exact ⟨by simp [Wr.num], by simp, by intro x hx; simp at hx⟩

/-- What the reader answers with a number. -/
def GtDid (S : Nat → Prop) (r : Nat) (v : Int) (s : St) (w : World) (e : Ending) (w' : World) : Prop := e = .returned (.int .i64 v) ∧ DrDid S r s w w'
set_option maxHeartbeats 1000000 in
theorem dget_any (S : Nat → Prop) (r n : Nat) (s : St) (w : World) (h : DrAt w S r s) (hn : Sz n) :
    Calls Try.prog 55 #[.pointer (some ⟨r, 0, none⟩), .int .i64 n] w (GtDid S r (s.num n) (s.nx n) w) := by
  obtain ⟨hv, h7, hb⟩ := St.num_some hn h.2.2.1
  rw [hv, St.nx_sk hn h.2.2.1]
  have H := Lib.hid h
  have hn9 : n ≤ 140737488351232 := by unfold Sz at hn; omega
  clear h hv hn
  go_enter Try.func55, Try.ntmps55
  go_wp2_with fail
  refine (dtake_any S r n s w H.out hn9).mono ?_
  obtain ⟨xs, hxs⟩ : ∃ xs, xs = s.some n := ⟨_, rfl⟩
  rw [← hxs] at h7 hb ⊢
  have HXS := Lib.hid hxs
  clear hxs
  rintro e w1 ⟨A, c, rfl, hr, hd⟩
  have hcap := hr.cap
  unfold maxLen at hcap
  obtain ⟨_, hc1, hc2⟩ := hcap
  have HR := Lib.hid hr
  have HD := Lib.hid hd
  have HB := Lib.hid hb
  clear hr hd hb
  go_wp2_with fail
  go_loopw [6, 7] (fun n i wr => ∃ k : Nat, k ≤ xs.length ∧ i = .int .i64 k ∧ n = .int .i64 (Wr.num (xs.take k)) ∧ wr = w1) (fun _ i _ => xs.length - (intOf i).toNat)
  case atStart => exact ⟨0, by omega, rfl, by simp [Wr.num], rfl⟩
  case round =>
    obtain ⟨k, hk, rfl, rfl, rfl⟩ := hrel
    by_cases hlt : k < xs.length
    · have hlt' : (k : Int) < (xs.length : Int) := by omega
      have hk0 : (0 : Int) ≤ (k : Int) := by omega
      obtain ⟨g, o, hA, hg, hc⟩ := HR.out.some_ (by omega)
      subst hA
      obtain ⟨x, hx⟩ : ∃ x, x = xs[k] := ⟨_, rfl⟩
      have d0 : wr.cell? ⟨g, o + k, none⟩ = some (.int .u8 x) := hc k _ (by rw [bts_getElem? xs k hlt, hx])
      obtain ⟨x0, x1⟩ := HB.out x (by rw [hx]; exact List.getElem_mem hlt)
      have hn0 := Wr.num_nonneg (HB.out.take k)
      have hn1 := Wr.num_lt (HB.out.take k)
      have hlk : (xs.take k).length = k := by simp; omega
      rw [hlk] at hn1
      have hp : Wr.p256 k ≤ 281474976710656 := by
        have : k ≤ 6 := by omega
        obtain rfl | rfl | rfl | rfl | rfl | rfl | rfl : k = 0 ∨ k = 1 ∨ k = 2 ∨ k = 3 ∨ k = 4 ∨ k = 5 ∨ k = 6 := by omega
        all_goals decide
      have hstep : Wr.num (xs.take (k + 1)) = Wr.num (xs.take k) * 256 + x := by rw [List.take_succ_eq_append_getElem hlt, Wr.num_append, hx]
      obtain ⟨a, ha⟩ : ∃ a, a = Wr.num (xs.take k) := ⟨_, rfl⟩
      rw [← ha] at hn0 hn1 hstep ⊢
      have hor := or_step a x hn0 (by omega) x0 x1
      have HST := Lib.hid (And.intro hstep hor)
      have ha9 : a < 281474976710656 := by omega
      clear hstep hor hc hx ha hlk hp hn1
      go_wp2_with fail
      go_roundw
      case rel =>
        exact ⟨k + 1, by omega, by go_num, by rw [HST.out.1, HST.out.2], trivial⟩
      case measure => simp [intOf]; omega
    · obtain rfl : k = xs.length := by omega
      rw [List.take_length]
      go_wp2_with fail
      go_ret
      rw [← HXS.out]
      exact ⟨rfl, HD.out⟩

set_option maxHeartbeats 1000000 in
theorem doct_any (S : Nat → Prop) (r : Nat) (s : St) (w : World) (h : DrAt w S r s) :
    Calls Try.prog 58 #[.pointer (some ⟨r, 0, none⟩)] w fun e w' => ∃ A c, e = .returned (.slice A s.oct.length c) ∧ w'.ownsRow w.heap.size 5 1 (.slice A s.oct.length c) s.oct.length (bts s.oct) ∧ DrDid S r s.ox w w' := by
  have hok := h.2.2.1
  have hll := h.2.2.2.1
  obtain ⟨v0, v1⟩ := St.num_bd (n := 2) (.inr (.inl rfl)) hok
  have H := Lib.hid h
  clear h
  go_enter Try.func58, Try.ntmps58
  go_wp2_with fail
  refine (dget_any S r 2 s w H.out (.inr (.inl rfl))).mono ?_
  rintro e w1 ⟨rfl, hd, hm⟩
  have hp : Wr.p256 2 = 65536 := by decide
  rw [hp] at v1
  obtain ⟨n, hn⟩ : ∃ n : Nat, s.num 2 = n := ⟨(s.num 2).toNat, by omega⟩
  have HN := Lib.hid hn
  rw [hn] at v1 ⊢
  have HD := Lib.hid hd
  have HM := Lib.hid hm
  clear hd hm hn v0
  go_wp2_with fail
  refine (dtake_any S r n (s.nx 2) w1 HD.out (by omega)).mono ?_
  have e1 : (s.nx 2).some n = s.oct := by unfold St.oct; rw [HN.out]
  have e2 : (s.nx 2).sk n = s.ox := by unfold St.ox; rw [HN.out]
  rw [e1, e2]
  rintro e w2 ⟨A, c, rfl, hr, hd, hm⟩
  have HR := Lib.hid hr
  replace HD := Lib.hid hd
  replace HM := Lib.hid (HM.out.trans hm (fun i hi => .inl hi))
  have hlo : s.oct.length ≤ 140737488351232 := by
    rw [← e1]
    unfold St.some
    split
    · unfold Wr.bytV
      split
      · simp; omega
      · simp
    · simp
  clear hr hd hm e1 e2
  go_wp2_with fail
  refine (copy_bytes _ _ s.oct w2 HR.out (by omega)).mono ?_
  rintro e w3 ⟨A3, c3, rfl, hf⟩
  have HF := Lib.hid hf
  clear hf
  go_wp2_with fail
  go_ret
  refine ⟨A3, c3, rfl, own_mod HF.out.own (Mod.refl (fun _ => False) w3) (fun _ _ h => h) HM.out.size, HD.out.below HF.out.kept, ?_⟩
  exact HM.out.trans (Mod.of_below (S := fun _ => False) HF.out.kept) (fun i hi => hi.elim)
end

section
/-- The reader in block r, the command in block g, the result in block z; W: the world ahead. -/
def DcAt (W w : World) (S : Nat → Prop) (z r g : Nat) (s : St) (co : Co) : Prop :=
  DrAt w S r s ∧ Blk w g 36 co.L.toArray ∧ Blk w z 36 zCo.L.toArray ∧ Below W.heap.size W w ∧ ¬ S g ∧ ¬ S z ∧ r ≠ g ∧ z ≠ r ∧ z ≠ g ∧ W.heap.size ≤ z ∧ W.heap.size ≤ r ∧ W.heap.size ≤ g
theorem DcAt.read {W w w' : World} {S : Nat → Prop} {z r g : Nat} {s s' : St} {co : Co} (h : DcAt W w S z r g s co) (hd : DrDid S r s' w w') : DcAt W w' S z r g s' co := by
  obtain ⟨h1, h2, h3, h4, n1, n2, n3, n4, n5, n6, n7, n8⟩ := h
  exact ⟨hd.1, h2.kept hd.2 (fun e => n3 e.symm), h3.kept hd.2 n4, Bm h4 hd.2 (fun i hi => by subst hi; exact n7), n1, n2, n3, n4, n5, n6, n7, n8⟩
theorem DcAt.set {W w : World} {S : Nat → Prop} {z r g : Nat} {s : St} {co co' : Co} (h : DcAt W w S z r g s co) {o : Nat} {v : Value} (he : co.L.toArray.setIfInBounds o v = co'.L.toArray) : DcAt W (w.setCell ⟨g, o, none⟩ v) S z r g s co' := by
  obtain ⟨h1, h2, h3, h4, n1, n2, n3, n4, n5, n6, n7, n8⟩ := h
  have m1 : Mod (fun i => i = g) w (w.setCell ⟨g, o, none⟩ v) := (Mod.refl (fun i => i = g) w).setCell (p := ⟨g, o, none⟩) (.inl rfl) v
  refine ⟨h1.kept m1 (fun i hi e => n1 (e ▸ hi)) n3, ?_, h3.kept m1 n5, Bm h4 m1 (fun i hi => by subst hi; exact n8), n1, n2, n3, n4, n5, n6, n7, n8⟩
  rw [← he]
  exact h2.set_ o v
theorem DcAt.later {W w w' : World} {S : Nat → Prop} {z r g : Nat} {s : St} {co : Co} (h : DcAt W w S z r g s co) (hb : Below w.heap.size w w') : DcAt W w' S z r g s co := by
  obtain ⟨h1, h2, h3, h4, n⟩ := h
  exact ⟨h1.below hb, h2.later hb, h3.later hb, Bt h4 hb, n⟩
theorem set_key (s q kd nd ex : Int) (ks : List Int) (tx : ByteArray) (ti : Int) (k : Nat) (hk : k < ks.length) (x : Int) : (⟨s, q, ⟨kd, nd, ks, ex, tx, ti⟩⟩ : Co).L.toArray.setIfInBounds (4 + k) (.int .u8 x) = (⟨s, q, ⟨kd, nd, ks.set k x, ex, tx, ti⟩⟩ : Co).L.toArray := by
  simp only [Co.L, Ox.L, List.setIfInBounds_toArray]
  rw [show 4 + k = k + 1 + 1 + 1 + 1 by omega, List.set_cons_succ, List.set_cons_succ, List.set_cons_succ, List.set_cons_succ, List.set_append_left _ _ (by rw [bts_length]; exact hk)]
  simp [bts, List.map_set]
theorem Co.key_cell {c : Co} {k : Nat} (hk : k < c.o.ks.length) : c.L.toArray[4 + k]? = some (.int .u8 c.o.ks[k]) := by
  simp only [Co.L, Ox.L, List.getElem?_toArray]
  rw [show 4 + k = k + 1 + 1 + 1 + 1 by omega, List.getElem?_cons_succ, List.getElem?_cons_succ, List.getElem?_cons_succ, List.getElem?_cons_succ, List.getElem?_append_left (by rw [bts_length]; exact hk), bts_getElem? _ _ hk]
/-- A key of which k bytes are read. -/
def keyK (xs : List Int) (k : Nat) : List Int := xs.take k ++ z32.drop k
theorem keyK_len {xs : List Int} {k : Nat} (hk : k ≤ xs.length) (h32 : xs.length ≤ 32) : (keyK xs k).length = 32 := by
  unfold keyK
  rw [List.length_append, List.length_take, List.length_drop, z32_len]
  omega
theorem keyK_zero (xs : List Int) : keyK xs 0 = z32 := by simp [keyK]
theorem keyK_end {xs : List Int} (h : xs.length = 32 ∨ xs = []) : keyK xs xs.length = keyZ xs := by
  rcases h with h | h
  · have hne : xs ≠ [] := by intro h0; rw [h0] at h; simp at h
    unfold keyK keyZ
    rw [if_neg hne, List.take_length, h, List.drop_of_length_le (by rw [z32_len]; omega), List.append_nil]
  · subst h; simp [keyK, keyZ]
theorem keyK_set {xs : List Int} {k : Nat} (hk : k < xs.length) (h32 : xs.length ≤ 32) : (keyK xs k).set k xs[k] = keyK xs (k + 1) := by
  unfold keyK
  have hl : (xs.take k).length = k := by simp; omega
  rw [List.set_append_right _ _ (by omega), hl, Nat.sub_self, List.drop_eq_getElem_cons (show k < z32.length by rw [z32_len]; omega), List.set_cons_zero, List.take_succ_eq_append_getElem hk, List.append_assoc]
  rfl
theorem St.num_bad {s : St} (h : s.e ≠ 0) (n : Nat) : s.num n = 0 := if_neg h
theorem St.some_bad {s : St} (h : s.e ≠ 0) (n : Int) : s.some n = [] := if_neg h
/-- An op that is read behind a fault is none. -/
theorem rop_bad {s : St} (h : s.e ≠ 0) : (⟨0, s.num 1, keyZ ((s.nx 1).some 32), ((s.nx 1).sk 32).num 7, ByteArray.empty, 0⟩ : Ox) = rop 0 s ∧ ((s.nx 1).sk 32).nx 7 = ropS 0 s := by
  rw [St.nx_bad h, St.sk_bad h, St.nx_bad h, St.num_bad h, St.num_bad h, St.some_bad h]
  unfold rop ropS
  refine ⟨?_, ?_⟩
  · rw [if_neg (by omega), if_neg (by omega), if_neg (by omega), if_neg (by omega)]
    unfold Ox.zero keyZ
    rw [if_pos rfl]
  · rw [if_neg (by omega), if_neg (by omega), if_neg (by omega), if_neg (by omega)]
theorem vA_bad {ys : List Int} (h : wiB (vKd ys) 1 5 = false) : (vA ys).e ≠ 0 := by
  unfold vA St.fail
  rw [h, if_pos (by rfl)]
  split
  · show (4 : Int) ≠ 0
    decide
  · assumption
end
end Go.Proofs.Ytnphnaggamfoiaa
