/- The document's put and octets: bytes behind bytes. -/
import Derived.Test.YtnphnaggamfoiaaL1
import Derived.OwnWalk
namespace Go.Proofs.Ytnphnaggamfoiaa
open Go.RowKit
set_option maxRecDepth 20000
set_option linter.unusedVariables false
set_option linter.unusedSimpArgs false

theorem be_get : ∀ (n k : Nat) (v : Int) (hk : k < n), (Wr.be n v)[k]? = some (v / 2 ^ (8 * (n - 1 - k)) % 256)
  | 0, k, v, hk => by omega
  | n + 1, k, v, hk => by
    show (Wr.be n (v / 256) ++ [v % 256])[k]? = _
    by_cases h : k < n
    · rw [List.getElem?_append_left (by rw [Wr.be_length]; exact h), be_get n k _ h]
      congr 2
      have e : n + 1 - 1 - k = (n - 1 - k) + 1 := by omega
      rw [e, show 8 * (n - 1 - k + 1) = 8 + 8 * (n - 1 - k) by omega, Int.pow_add, Int.ediv_ediv_of_nonneg (by decide)]
      rfl
    · have hkn : k = n := by omega
      subst hkn
      rw [List.getElem?_append_right (by rw [Wr.be_length]; omega), Wr.be_length]
      simp
/-- Bytes behind bytes: the slice is the call's own, of a block no less than B. -/
def OutDid (B : Nat) (v : Value) (zs : List Int) (w : World) (e : Ending) (w' : World) : Prop :=
  ∃ A c, e = .returned (.slice A zs.length c) ∧ w'.ownsRow B 5 1 (.slice A zs.length c) zs.length (bts zs) ∧ Mod (fun i => v.ownBlock = some i) w w' ∧ ∀ i, (Value.slice A zs.length c).ownBlock = some i → v.ownBlock = some i ∨ w.heap.size ≤ i
theorem own_len (A : Option Addr) (n m c d : Nat) : (Value.slice A n c).ownBlock = (Value.slice A m d).ownBlock := by cases A <;> rfl
theorem bts_app (xs ys : List Int) : bts (xs ++ ys) = bts xs ++ bts ys := by simp [bts]
set_option maxHeartbeats 1000000 in
theorem put_doc (B : Nat) (A : Option Addr) (c : Nat) (xs : List Int) (v : Int) (n : Nat) (hn : Sz n) (hv : 0 ≤ v ∧ v ≤ 9007199254740991) (hl : xs.length ≤ 100000000) (w : World) (ho : w.ownsRow B 5 1 (.slice A xs.length c) xs.length (bts xs)) (hB : B ≤ w.heap.size) :
    Calls Try.prog 53 #[.slice A xs.length c, .int .i64 v, .int .i64 n] w (OutDid B (.slice A xs.length c) (xs ++ Wr.be n v) w) := by
  obtain ⟨i0, hi0, hz0, hz1, hz2⟩ := info_parts info5
  have hrng := hn.rng
  have hn7 : n ≤ 7 := by unfold Sz at hn; omega
  have HO := Lib.hid ho
  have HBL := Lib.hid (Mod.refl (fun i => (Value.slice A xs.length c).ownBlock = some i) w)
  have HV := Lib.hid hv
  obtain ⟨hr1, hr2⟩ := hrng
  clear ho hn hv
  go_enter Try.func53, Try.ntmps53
  go_wp2_with fail
  go_loopw [0, 7] (fun o i wr => ∃ (k A' c' : _), k ≤ n ∧ i = .int .i64 ((n : Int) - (k : Nat) - 1) ∧ o = .slice A' (xs.length + k) c' ∧ wr.ownsRow B 5 1 (.slice A' (xs.length + k) c') (xs.length + k) (bts (xs ++ (Wr.be n v).take k)) ∧ Mod (fun i => (Value.slice A xs.length c).ownBlock = some i) w wr ∧ ∀ i, (Value.slice A' (xs.length + k) c').ownBlock = some i → (Value.slice A xs.length c).ownBlock = some i ∨ w.heap.size ≤ i) (fun _ i _ => (intOf i + 1).toNat)
  case atStart => exact ⟨0, A, c, Nat.zero_le _, by go_num, rfl, by simpa using HO.out, HBL.out, fun i hi => .inl (by rw [← hi]; exact own_len ..)⟩
  case round =>
    obtain ⟨k, A', c', hk, rfl, rfl, ho', hb, hsz⟩ := hrel
    have HO' := Lib.hid (ho'.alloc)
    have HOW := Lib.hid ho'
    have HB := Lib.hid hb
    have HS := Lib.hid hsz
    obtain ⟨wv, rfl⟩ : ∃ wv, wv = wr := ⟨_, rfl⟩
    clear ho' hb hsz
    by_cases hlt : k < n
    · obtain ⟨j, hj⟩ : ∃ j : Nat, (n : Int) - (k : Nat) - 1 = j := ⟨n - k - 1, by omega⟩
      rw [hj]
      have hj6 : j ≤ 6 := by omega
      have hj0 : (0 : Int) ≤ (j : Int) := by omega
      have HJ := Lib.hid hj
      clear hj
      obtain ⟨y, hy⟩ : ∃ y, y = v / 2 ^ (8 * j) % 256 := ⟨_, rfl⟩
      have HY := Lib.hid (show (Wr.be n v).take (k + 1) = (Wr.be n v).take k ++ [y] by
        have hk2 : k < (Wr.be n v).length := by rw [Wr.be_length]; exact hlt
        rw [List.take_add_one, be_get n k v hlt, hy, show n - 1 - k = j by have := HJ.out; omega]
        rfl)
      go_wp2_with (at_builtin; rw [← hy]; clear hy; refine wpList_append_rd _ rfl (.tmp 14) (.tmp 20) _ rfl B 5 i0 _ 1 1 Try.underlying23 hi0 hz0 hz1 hz2 rfl (by omega) (.slice A' (xs.length + k) c') (xs.length + k) (bts (xs ++ (Wr.be n v).take k)) rfl (HO'.out (.cells #[.int .u8 y] 5)) (fun j => j = wv.heap.size) (.slice (some ⟨wv.heap.size, 0, none⟩) 1 1) 1 [.int .u8 y] rfl (Rd.box wv 5 [.int .u8 y] 1 rfl) (by simp [Value.oneCell']) (by simp only [maxLen]; omega) (by omega) (by have := HB.out.size; simp; omega) ?_; intro v2 w5 HA)
      obtain ⟨A2, c2, rfl⟩ := own_slice HA.own
      have HA' := Lib.hid HA
      clear HA
      go_wp2_with fail
      go_roundw
      case rel =>
        have hg := HA'.out.grown
        have ho2 := HA'.out.own
        refine ⟨k + 1, A2, c2, by omega, ?_, by rw [Nat.add_assoc], ?_, ?_, ?_⟩
        · have := HJ.out
          first | (simp; done) | (simp; omega)
        · rw [HY.out, ← List.append_assoc, bts_app]
          exact ho2
        · exact ((HB.out.alloc _).grown hg (fun j hj => HS.out j hj))
        · intro i hi
          rcases HA'.out.at_ with h | h
          · exact HS.out i (by rw [← h, ← hi]; exact own_len ..)
          · have e : some i = some (wv.alloc (.cells #[.int .u8 y] 5)).heap.size := by rw [← h, ← hi]; exact own_len ..
            have := HB.out.size
            simp at e
            exact .inr (by omega)
      case measure => first | (simp [intOf]; done) | (simp [intOf]; omega)
    · have hkn : k = n := by omega
      subst hkn
      have e0 : (k : Int) - (k : Nat) - 1 = -1 := by omega
      rw [e0]
      have HT := Lib.hid (show (Wr.be k v).take k = Wr.be k v from List.take_of_length_le (by rw [Wr.be_length]; omega))
      go_wp2_with fail
      go_ret
      have hle : (xs ++ Wr.be k v).length = xs.length + k := by rw [List.length_append, Wr.be_length]
      refine ⟨A', c', by rw [hle]; rfl, ?_, HB.out, fun i hi => HS.out i (by rw [← hi]; exact own_len ..)⟩
      rw [hle]
      have h2 := HOW.out
      rw [HT.out] at h2
      exact h2
set_option maxHeartbeats 1000000 in
theorem octets_doc (B : Nat) (T : Nat → Prop) (A Ab : Option Addr) (c cb : Nat) (xs bs : List Int) (hb6 : bs.length ≤ 65535) (hl : xs.length ≤ 100000000) (w : World) (ho : w.ownsRow B 5 1 (.slice A xs.length c) xs.length (bts xs)) (hB : B ≤ w.heap.size)
    (hr : Rd w T 1 (.slice Ab bs.length cb) bs.length (bts bs)) (hT : ∀ i, T i → i < B) :
    Calls Try.prog 54 #[.slice A xs.length c, .slice Ab bs.length cb] w (OutDid B (.slice A xs.length c) (xs ++ olay bs) w) := by
  obtain ⟨i0, hi0, hz0, hz1, hz2⟩ := info_parts info5
  have HO := Lib.hid ho
  have HR := Lib.hid hr
  have HT := Lib.hid hT
  clear ho hr hT
  go_enter Try.func54, Try.ntmps54
  go_wp2_with fail
  refine (put_doc B A c xs (bs.length : Int) 2 (.inr (.inl rfl)) ⟨by omega, by omega⟩ hl w HO.out hB).mono ?_
  rintro e w1 ⟨A1, c1, rfl, ho1, hb1, hw1⟩
  have HO1 := Lib.hid ho1
  have HR1 := Lib.hid (HR.out.kept hb1 (fun i hi h => by have := own_ge HO.out i h; have := HT.out i hi; omega))
  have HB1 := Lib.hid hb1
  have HW1 := Lib.hid hw1
  have hsz := hb1.size
  have hle : (xs ++ Wr.be 2 (bs.length : Int)).length = xs.length + 2 := by rw [List.length_append, Wr.be_length]
  obtain ⟨zs, hzs⟩ : ∃ zs, zs = xs ++ Wr.be 2 (bs.length : Int) := ⟨_, rfl⟩
  rw [← hzs] at HO1 hle HW1 ⊢
  have HZ := Lib.hid hzs
  have HLE := Lib.hid hle
  clear ho1 hb1 hzs hle hw1
  go_wp2_with (at_builtin; refine wpList_append_rd _ rfl (.tmp 9) (.tmp 10) _ rfl B 5 i0 _ 1 1 Try.underlying23 hi0 hz0 hz1 hz2 rfl (by omega) (.slice A1 zs.length c1) zs.length (bts zs) rfl HO1.out T (.slice Ab bs.length cb) bs.length (bts bs) rfl HR1.out (bts_one bs) (by have := HLE.out; simp only [maxLen]; omega) (by have := HLE.out; omega) (by omega) ?_; intro v2 w5 HA)
  obtain ⟨A2, c2, rfl⟩ := own_slice HA.own
  go_ret
  have e1 : xs ++ olay bs = zs ++ bs := by rw [HZ.out, olay, List.append_assoc]
  have hle2 : (zs ++ bs).length = zs.length + bs.length := by simp
  refine ⟨A2, c2, by rw [e1, hle2]; rfl, ?_, HB1.out.grown HA.grown (fun j hj => HW1.out j hj), fun i hi => ?_⟩
  · rw [e1, hle2, bts_app]
    exact HA.own
  · rcases HA.at_ with h | h
    · exact HW1.out i (by rw [← h, ← hi]; exact own_len ..)
    · have e : some i = some w1.heap.size := by rw [← h, ← hi]; exact own_len ..
      injection e with e
      exact .inr (by omega)
theorem one_doc (b : Bool) (w : World) : Calls Try.prog 77 #[.bool b] w fun e w' => e = .returned (.int .i64 (if b then 1 else 0)) ∧ w = w' := by
  cases b
  · go_enter Try.func77, Try.ntmps77
    go_wp2_with fail
    go_ret
    exact ⟨rfl, rfl⟩
  · go_enter Try.func77, Try.ntmps77
    go_wp2_with fail
    go_ret
    exact ⟨rfl, rfl⟩
end Go.Proofs.Ytnphnaggamfoiaa
