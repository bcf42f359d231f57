/- K3, K4, K5, K6 in one text. -/
import Derived.Test.YtnphnaggamfoiaaK0
import Derived.Test.YtnphnaggamfoiaaD2
import Derived.Lib.ConvBytes
import Derived.Laws.BytesString
import Derived.Test.YtnphnaggamfoiaaD4
import Derived.Test.YtnphnaggamfoiaaK2
import Derived.Test.YtnphnaggamfoiaaD7
namespace Go.Proofs.Ytnphnaggamfoiaa
open Go.RowKit
set_option maxRecDepth 20000
set_option linter.unusedVariables false
set_option linter.unusedSimpArgs false
section
/-- A text's bytes. -/
def tb (s : ByteArray) : List Int := s.data.toList.map fun b => (b.toNat : Int)
theorem tb_len (s : ByteArray) : (tb s).length = s.size := by unfold tb; rw [List.length_map]; exact Array.length_toList
theorem tb_byt (s : ByteArray) : Byt (tb s) := by
  intro x hx
  simp only [tb, List.mem_map] at hx
  obtain ⟨b, _, rfl⟩ := hx
  have := b.toNat_lt
  omega
def bs (l : List Int) : ByteArray := l.foldl (fun r n => r.push (UInt8.ofNat n.toNat)) ByteArray.empty
theorem bs_data (l : List Int) : ∀ r : ByteArray, (l.foldl (fun r n => r.push (UInt8.ofNat n.toNat)) r).data.toList = r.data.toList ++ l.map (fun n => UInt8.ofNat n.toNat) := by
  induction l with
  | nil => intro r; simp
  | cons a l ih => intro r; rw [List.foldl_cons, ih]; simp [ByteArray.push]
theorem bs_tb (s : ByteArray) : bs (tb s) = s := by
  have h := bs_data (tb s) ByteArray.empty
  obtain ⟨⟨l⟩⟩ := s
  have e : (bs (tb ⟨⟨l⟩⟩)).data.toList = l := by
    unfold bs
    rw [h]
    simp [tb, Function.comp_def]
  cases hb : bs (tb ⟨⟨l⟩⟩) with
  | mk d => rw [hb] at e; cases d with | mk l' => simp at e; rw [e]
theorem tb_bs {l : List Int} (h : Byt l) : tb (bs l) = l := by
  unfold tb bs
  rw [bs_data]
  rw [show ByteArray.empty.data.toList = [] from rfl, List.nil_append, List.map_map]
  conv => rhs; rw [← List.map_id l]
  refine List.map_congr_left (fun a ha => ?_)
  have := h a ha
  simp only [Function.comp_def, id]
  rw [UInt8.toNat_ofNat']
  omega
theorem bytes_below (w : World) (s : ByteArray) : Below w.heap.size w (Lib.bytesWorld w 5 s) := by
  refine ⟨rfl, rfl, rfl, by rw [Lib.bytesWorld_size]; omega, fun i hi => Lib.bytesWorld_at_old w 5 s i hi⟩
theorem bytes_rd (w : World) (s : ByteArray) (hs : s.size ≤ 1000000) : Rd (Lib.bytesWorld w 5 s) (fun i => i = w.heap.size) 1 (.slice (some ⟨w.heap.size, 0, none⟩) s.size (grownCap w s.size 0 5)) s.size (bts (tb s)) := by
  refine ⟨by simp [bts, tb_len], _, _, rfl, ?_, ?_, fun _ => ⟨_, 0, rfl, rfl, fun j u hu => ?_⟩⟩
  · exact grownCap_ge _ _ _ _
  · exact grownCap_le_maxLen _ _ _ _ (by simp only [maxLen]; omega)
  · have hj : j < (bts (tb s)).length := (List.getElem?_eq_some_iff.1 hu).1
    rw [bts_length, tb_len] at hj
    rw [Nat.zero_add, Lib.bytesWorld_cell w 5 s j hj, ← hu]
    simp [bts, tb, List.getD, hj]
end

section
theorem wfixed_any {B : Nat} {K T : Nat → Prop} {p : Nat} {xs : List Int} (A : Option Addr) (c : Nat) (bs : List Int) (w : World) (h : Wr.WrIn B K w p xs) (hr : Rd w T 1 (.slice A bs.length c) bs.length (bts bs)) (hT : ∀ i, T i → i < w.heap.size) (hl : xs.length + bs.length ≤ 140737488355328) :
    Calls Try.prog 101 #[wv p, .slice A bs.length c] w (Wr.WDidIn B K p (xs ++ bs) (.tuple #[]) w) := by
  have H := Lib.hid (wr_one h (.cells #[.pointer (some ⟨p, 0, none⟩)] 66))
  have HR := Lib.hid (And.intro hr hT)
  clear h hr hT
  go_enter Try.func101, Try.ntmps101
  go_wp2_with fail
  refine (Wr.wbytes_in bs A c _ H.out (HR.out.1.below (Ba (B0 w) _) HR.out.2) (fun i hi => Nat.lt_of_lt_of_le (HR.out.2 i hi) (by simp)) hl).mono ?_
  rintro e w1 ⟨rfl, hw, hm⟩
  go_wp2_with fail
  refine bodyPost_ret (v := .tuple #[]) (by simp [results, Try.results101, go_sem]) rfl ?_
  exact did_box (n := 0) hw hm
/-- Behind the writing of an op that lies in block g. -/
def WOp (B : Nat) (K : Nat → Prop) (p g : Nat) (zs : List Int) (w : World) (e : Ending) (w' : World) : Prop := e = .returned (.tuple #[]) ∧ Wr.WrIn B K w' p zs ∧ Mod (fun i => Wr.Stays B K i ∨ i = g) w w'
theorem Co.at37 {c : Co} (h : c.o.ks.length = 32) : c.L.toArray[37]? = some (.string c.o.tx) := by simp [Co.L, Ox.L, List.getElem?_append_right, h, bts]
theorem Co.at36 {c : Co} (h : c.o.ks.length = 32) : c.L.toArray[36]? = some (.int .i64 c.o.ex) := by simp [Co.L, Ox.L, List.getElem?_append_right, h, bts]
theorem Co.at38 {c : Co} (h : c.o.ks.length = 32) : c.L.toArray[38]? = some (.int .i64 c.o.ti) := by simp [Co.L, Ox.L, List.getElem?_append_right, h, bts]
theorem nil_wfixed' (p : Nat) (w : World) : (nilAhead 246 66 (wv p) "causeway/post.fixed").run Try.prog w = .ok (some false) w := nil_wfixed p w
theorem mod_preG {S : Nat → Prop} {g : Nat} {w0 w1 wx w2 : World} (h : Mod (fun i => S i ∨ i = g) w0 w1) (hb : Below w1.heap.size w1 wx) (hm : Mod S wx w2) : Mod (fun i => S i ∨ i = g) w0 w2 :=
  (h.trans (Mod.of_below (S := fun i => S i ∨ i = g) hb) (fun i hi => .inl hi)).trans hm (fun i hi => .inl (.inl hi))
theorem key_rd {w : World} {g : Nat} {c : Co} (h : Blk w g 36 c.L.toArray) (h32 : c.o.ks.length = 32) : Rd w (fun i => i = g) 1 (.slice (some ⟨g, 4, none⟩) c.o.ks.length 32) c.o.ks.length (bts c.o.ks) := by
  refine ⟨by simp [bts], _, _, rfl, by omega, by simp [maxLen], fun _ => ⟨g, 4, rfl, rfl, fun j u hu => ?_⟩⟩
  have hj : j < (bts c.o.ks).length := (List.getElem?_eq_some_iff.1 hu).1
  rw [h.cell]
  have : c.L.toArray[4 + j]? = some u := by
    rw [show 4 + j = j + 4 by omega]
    simp only [Co.L, Ox.L, List.getElem?_toArray, List.getElem?_cons_succ]
    rw [List.getElem?_append_left hj, hu]
  exact this
theorem wkey_any {B : Nat} {K : Nat → Prop} {p : Nat} {xs : List Int} (g : Nat) (c : Co) (h32 : c.o.ks.length = 32) (w : World) (h : Wr.WrIn B K w p xs) (hb : Blk w g 36 c.L.toArray) (hl : xs.length + 100 ≤ 140737488355328) :
    Calls Try.prog 101 #[wv p, .slice (some ⟨g, 4, none⟩) 32 32] w (Wr.WDidIn B K p (xs ++ c.o.ks) (.tuple #[]) w) := by
  have := wfixed_any (T := fun i => i = g) (some ⟨g, 4, none⟩) 32 c.o.ks w h (key_rd hb h32) (fun i hi => by subst hi; exact hb.lt) (by omega)
  rw [h32] at this
  exact this
set_option maxHeartbeats 2000000 in
theorem wop3_any {B : Nat} {K : Nat → Prop} {p : Nat} {xs : List Int} (g : Nat) (c : Co) (hk : c.o.kd = 3) (h32 : c.o.ks.length = 32) (hn : c.o.nd < 9223372036854775808) (w : World) (h : Wr.WrIn B K w p xs) (hb : Blk w g 36 c.L.toArray) (hs : Stay B K g) (hl : xs.length + 2000 ≤ 140737488355328) :
    Calls Try.prog 45 #[wi p, .pointer (some ⟨g, 2, none⟩)] w (WOp B K p g (Wr.putL xs c.o.nd 1) w) := by
  have x2 : w.cell? ⟨g, 2, none⟩ = some (.int .i64 3) := (hb.cell 2).trans (by rw [← hk]; rfl)
  have x37 : w.cell? ⟨g, 37, none⟩ = some (.string c.o.tx) := (hb.cell 37).trans (Co.at37 h32)
  have hcv := Lib.run_convert_string_bytes (P := Try.prog) w 9 23 5 c.o.tx Try.underlying9 Try.underlying23 Try.underlying5
  have hbw := bytes_below w c.o.tx
  have y2 : (Lib.bytesWorld w 5 c.o.tx).cell? ⟨g, 2, none⟩ = some (.int .i64 3) := (hbw.cell (p := ⟨g, 2, none⟩) hb.lt).trans x2
  have lg := hb.lt
  have lg2 : g < (Lib.bytesWorld w 5 c.o.tx).heap.size := Nat.lt_of_lt_of_le hb.lt hbw.size
  obtain ⟨wa, hwa⟩ : ∃ u, u = (Lib.bytesWorld w 5 c.o.tx).alloc (.cells #[.slice (some ⟨w.heap.size, 0, none⟩) c.o.tx.size (grownCap w c.o.tx.size 0 5)] 23) := ⟨_, rfl⟩
  have hba : Below w.heap.size w wa := by rw [hwa]; exact hbw.alloc hbw.size _
  have HWA := Lib.hid hwa
  have H := Lib.hid (h.below hba)
  have HC := Lib.hid (And.intro (hb.later hba) hs)
  have HM := Lib.hid (show Mod (fun i => Wr.Stays B K i ∨ i = g) w wa from Mod.of_below hba)
  have HL := Lib.hid hl
  have H32 := Lib.hid h32
  have hmf := mkfn
  have hna1 := nil_wnumber p
  have hna3 := nil_woctets p
  have hna4 := nil_wfixed p
  clear h hb hs hbw hwa hba hk h32 hl
  go_enter Try.func45, Try.ntmps45
  go_wp2_with fail
  rw [← HWA.out]
  clear x2 x37 hcv y2 lg lg2
  go_region_held3 (fun _ => True) (exact trivial)
    (first | (go_at_call 44; refine (wnum_any g 3 _ _ c.o.nd 1 hn _ (H.out.below (by repeat (first | exact B0 _ | apply Bs | apply Bd | apply BdN | apply Ba))) (HC.out.1.later (by repeat (first | exact B0 _ | apply Bs | apply Bd | apply BdN | apply Ba))) HC.out.2 rfl (by have := HL.out; omega)).mono ?_; rintro e w1 ⟨rfl, hw, hm⟩))
  have hbx : Below wa.heap.size wa _ := below_pre hm (by repeat (first | exact B0 _ | apply Bs | apply Bd | apply BdN | apply Ba))
  replace H := Lib.hid hw
  replace HC := Lib.hid (And.intro ((HC.out.1.later (show Below _ _ _ from hbx)).kept hm (HC.out.2.not)) HC.out.2)
  replace HM := Lib.hid (mod_preG HM.out hbx hm)
  replace HL := Lib.hid (show (Wr.putL xs c.o.nd 1).length + 1900 ≤ 140737488355328 by have := wputL_len (xs) (c.o.nd) 1; have := HL.out; omega)
  clear hw hm hbx
  go_wp2_with fail
  refine bodyPost_ret (v := .tuple #[]) (by simp [results, Try.results45, go_sem]) rfl ?_
  exact ⟨rfl, H.out, HM.out⟩
set_option maxHeartbeats 2000000 in
theorem wop5_any {B : Nat} {K : Nat → Prop} {p : Nat} {xs : List Int} (g : Nat) (c : Co) (hk : c.o.kd = 5) (h32 : c.o.ks.length = 32) (hn : c.o.ti < 9223372036854775808) (w : World) (h : Wr.WrIn B K w p xs) (hb : Blk w g 36 c.L.toArray) (hs : Stay B K g) (hl : xs.length + 2000 ≤ 140737488355328) :
    Calls Try.prog 45 #[wi p, .pointer (some ⟨g, 2, none⟩)] w (WOp B K p g (Wr.putL xs c.o.ti 7) w) := by
  have x2 : w.cell? ⟨g, 2, none⟩ = some (.int .i64 5) := (hb.cell 2).trans (by rw [← hk]; rfl)
  have x37 : w.cell? ⟨g, 37, none⟩ = some (.string c.o.tx) := (hb.cell 37).trans (Co.at37 h32)
  have hcv := Lib.run_convert_string_bytes (P := Try.prog) w 9 23 5 c.o.tx Try.underlying9 Try.underlying23 Try.underlying5
  have hbw := bytes_below w c.o.tx
  have y2 : (Lib.bytesWorld w 5 c.o.tx).cell? ⟨g, 2, none⟩ = some (.int .i64 5) := (hbw.cell (p := ⟨g, 2, none⟩) hb.lt).trans x2
  have lg := hb.lt
  have lg2 : g < (Lib.bytesWorld w 5 c.o.tx).heap.size := Nat.lt_of_lt_of_le hb.lt hbw.size
  obtain ⟨wa, hwa⟩ : ∃ u, u = (Lib.bytesWorld w 5 c.o.tx).alloc (.cells #[.slice (some ⟨w.heap.size, 0, none⟩) c.o.tx.size (grownCap w c.o.tx.size 0 5)] 23) := ⟨_, rfl⟩
  have hba : Below w.heap.size w wa := by rw [hwa]; exact hbw.alloc hbw.size _
  have HWA := Lib.hid hwa
  have H := Lib.hid (h.below hba)
  have HC := Lib.hid (And.intro (hb.later hba) hs)
  have HM := Lib.hid (show Mod (fun i => Wr.Stays B K i ∨ i = g) w wa from Mod.of_below hba)
  have HL := Lib.hid hl
  have H32 := Lib.hid h32
  have hmf := mkfn
  have hna1 := nil_wnumber p
  have hna3 := nil_woctets p
  have hna4 := nil_wfixed p
  clear h hb hs hbw hwa hba hk h32 hl
  go_enter Try.func45, Try.ntmps45
  go_wp2_with fail
  rw [← HWA.out]
  clear x2 x37 hcv y2 lg lg2
  go_region_held3 (fun _ => True) (exact trivial)
    (first | (go_at_call 44; refine (wnum_any g 38 _ _ c.o.ti 7 hn _ (H.out.below (by repeat (first | exact B0 _ | apply Bs | apply Bd | apply BdN | apply Ba))) (HC.out.1.later (by repeat (first | exact B0 _ | apply Bs | apply Bd | apply BdN | apply Ba))) HC.out.2 (Co.at38 H32.out) (by have := HL.out; omega)).mono ?_; rintro e w1 ⟨rfl, hw, hm⟩))
  have hbx : Below wa.heap.size wa _ := below_pre hm (by repeat (first | exact B0 _ | apply Bs | apply Bd | apply BdN | apply Ba))
  replace H := Lib.hid hw
  replace HC := Lib.hid (And.intro ((HC.out.1.later (show Below _ _ _ from hbx)).kept hm (HC.out.2.not)) HC.out.2)
  replace HM := Lib.hid (mod_preG HM.out hbx hm)
  replace HL := Lib.hid (show (Wr.putL xs c.o.ti 7).length + 1900 ≤ 140737488355328 by have := wputL_len (xs) (c.o.ti) 7; have := HL.out; omega)
  clear hw hm hbx
  go_wp2_with fail
  refine bodyPost_ret (v := .tuple #[]) (by simp [results, Try.results45, go_sem]) rfl ?_
  exact ⟨rfl, H.out, HM.out⟩
set_option maxHeartbeats 2000000 in
theorem wop1_any {B : Nat} {K : Nat → Prop} {p : Nat} {xs : List Int} (g : Nat) (c : Co) (hk : c.o.kd = 1) (h32 : c.o.ks.length = 32) (hn : c.o.nd < 9223372036854775808) (hx : c.o.ex < 9223372036854775808) (w : World) (h : Wr.WrIn B K w p xs) (hb : Blk w g 36 c.L.toArray) (hs : Stay B K g) (hl : xs.length + 2000 ≤ 140737488355328) :
    Calls Try.prog 45 #[wi p, .pointer (some ⟨g, 2, none⟩)] w (WOp B K p g (Wr.putL (Wr.putL xs c.o.nd 1 ++ c.o.ks) c.o.ex 7) w) := by
  have x2 : w.cell? ⟨g, 2, none⟩ = some (.int .i64 1) := (hb.cell 2).trans (by rw [← hk]; rfl)
  have x37 : w.cell? ⟨g, 37, none⟩ = some (.string c.o.tx) := (hb.cell 37).trans (Co.at37 h32)
  have hcv := Lib.run_convert_string_bytes (P := Try.prog) w 9 23 5 c.o.tx Try.underlying9 Try.underlying23 Try.underlying5
  have hbw := bytes_below w c.o.tx
  have y2 : (Lib.bytesWorld w 5 c.o.tx).cell? ⟨g, 2, none⟩ = some (.int .i64 1) := (hbw.cell (p := ⟨g, 2, none⟩) hb.lt).trans x2
  have lg := hb.lt
  have lg2 : g < (Lib.bytesWorld w 5 c.o.tx).heap.size := Nat.lt_of_lt_of_le hb.lt hbw.size
  obtain ⟨wa, hwa⟩ : ∃ u, u = (Lib.bytesWorld w 5 c.o.tx).alloc (.cells #[.slice (some ⟨w.heap.size, 0, none⟩) c.o.tx.size (grownCap w c.o.tx.size 0 5)] 23) := ⟨_, rfl⟩
  have hba : Below w.heap.size w wa := by rw [hwa]; exact hbw.alloc hbw.size _
  have HWA := Lib.hid hwa
  have H := Lib.hid (h.below hba)
  have HC := Lib.hid (And.intro (hb.later hba) hs)
  have HM := Lib.hid (show Mod (fun i => Wr.Stays B K i ∨ i = g) w wa from Mod.of_below hba)
  have HL := Lib.hid hl
  have H32 := Lib.hid h32
  have hmf := mkfn
  have hna1 := nil_wnumber p
  have hna3 := nil_woctets p
  have hna4 := nil_wfixed p
  clear h hb hs hbw hwa hba hk h32 hl
  go_enter Try.func45, Try.ntmps45
  go_wp2_with fail
  rw [← HWA.out]
  clear x2 x37 hcv y2 lg lg2
  go_region_held3 (fun _ => True) (exact trivial)
    (first | (go_at_call 44; refine (wnum_any g 3 _ _ c.o.nd 1 hn _ (H.out.below (by repeat (first | exact B0 _ | apply Bs | apply Bd | apply BdN | apply Ba))) (HC.out.1.later (by repeat (first | exact B0 _ | apply Bs | apply Bd | apply BdN | apply Ba))) HC.out.2 rfl (by have := HL.out; omega)).mono ?_; rintro e w1 ⟨rfl, hw, hm⟩))
  have hbx : Below wa.heap.size wa _ := below_pre hm (by repeat (first | exact B0 _ | apply Bs | apply Bd | apply BdN | apply Ba))
  replace H := Lib.hid hw
  replace HC := Lib.hid (And.intro ((HC.out.1.later (show Below _ _ _ from hbx)).kept hm (HC.out.2.not)) HC.out.2)
  replace HM := Lib.hid (mod_preG HM.out hbx hm)
  replace HL := Lib.hid (show (Wr.putL xs c.o.nd 1).length + 1900 ≤ 140737488355328 by have := wputL_len (xs) (c.o.nd) 1; have := HL.out; omega)
  clear hw hm hbx
  go_wp2_with fail
  go_region_held3 (fun _ => True) (exact trivial)
    (first | (go_at_call 101; refine (wkey_any g c H32.out _ (H.out.below (by repeat (first | exact B0 _ | apply Bs | apply Bd | apply BdN | apply Ba))) (HC.out.1.later (by repeat (first | exact B0 _ | apply Bs | apply Bd | apply BdN | apply Ba))) (by have := HL.out; omega)).mono ?_; rintro e w2 ⟨rfl, hw, hm⟩))
  have hbx : Below w1.heap.size w1 _ := below_pre hm (by repeat (first | exact B0 _ | apply Bs | apply Bd | apply BdN | apply Ba))
  replace H := Lib.hid hw
  replace HC := Lib.hid (And.intro ((HC.out.1.later (show Below _ _ _ from hbx)).kept hm (HC.out.2.not)) HC.out.2)
  replace HM := Lib.hid (mod_preG HM.out hbx hm)
  replace HL := Lib.hid (show (Wr.putL xs c.o.nd 1 ++ c.o.ks).length + 1800 ≤ 140737488355328 by rw [List.length_append, H32.out]; have := HL.out; omega)
  clear hw hm hbx
  go_wp2_with fail
  go_region_held3 (fun _ => True) (exact trivial)
    (first | (go_at_call 44; refine (wnum_any g 36 _ _ c.o.ex 7 hx _ (H.out.below (by repeat (first | exact B0 _ | apply Bs | apply Bd | apply BdN | apply Ba))) (HC.out.1.later (by repeat (first | exact B0 _ | apply Bs | apply Bd | apply BdN | apply Ba))) HC.out.2 (Co.at36 H32.out) (by have := HL.out; omega)).mono ?_; rintro e w3 ⟨rfl, hw, hm⟩))
  have hbx : Below w2.heap.size w2 _ := below_pre hm (by repeat (first | exact B0 _ | apply Bs | apply Bd | apply BdN | apply Ba))
  replace H := Lib.hid hw
  replace HC := Lib.hid (And.intro ((HC.out.1.later (show Below _ _ _ from hbx)).kept hm (HC.out.2.not)) HC.out.2)
  replace HM := Lib.hid (mod_preG HM.out hbx hm)
  replace HL := Lib.hid (show (Wr.putL (Wr.putL xs c.o.nd 1 ++ c.o.ks) c.o.ex 7).length + 1700 ≤ 140737488355328 by have := wputL_len (Wr.putL xs c.o.nd 1 ++ c.o.ks) (c.o.ex) 7; have := HL.out; omega)
  clear hw hm hbx
  go_wp2_with fail
  refine bodyPost_ret (v := .tuple #[]) (by simp [results, Try.results45, go_sem]) rfl ?_
  exact ⟨rfl, H.out, HM.out⟩
set_option maxHeartbeats 2000000 in
theorem wop2_any {B : Nat} {K : Nat → Prop} {p : Nat} {xs : List Int} (g : Nat) (c : Co) (hk : c.o.kd = 2) (h32 : c.o.ks.length = 32) (hn : c.o.nd < 9223372036854775808) (hx : c.o.ex < 9223372036854775808) (w : World) (h : Wr.WrIn B K w p xs) (hb : Blk w g 36 c.L.toArray) (hs : Stay B K g) (hl : xs.length + 2000 ≤ 140737488355328) :
    Calls Try.prog 45 #[wi p, .pointer (some ⟨g, 2, none⟩)] w (WOp B K p g (Wr.putL (Wr.putL xs c.o.nd 1 ++ c.o.ks) c.o.ex 7) w) := by
  have x2 : w.cell? ⟨g, 2, none⟩ = some (.int .i64 2) := (hb.cell 2).trans (by rw [← hk]; rfl)
  have x37 : w.cell? ⟨g, 37, none⟩ = some (.string c.o.tx) := (hb.cell 37).trans (Co.at37 h32)
  have hcv := Lib.run_convert_string_bytes (P := Try.prog) w 9 23 5 c.o.tx Try.underlying9 Try.underlying23 Try.underlying5
  have hbw := bytes_below w c.o.tx
  have y2 : (Lib.bytesWorld w 5 c.o.tx).cell? ⟨g, 2, none⟩ = some (.int .i64 2) := (hbw.cell (p := ⟨g, 2, none⟩) hb.lt).trans x2
  have lg := hb.lt
  have lg2 : g < (Lib.bytesWorld w 5 c.o.tx).heap.size := Nat.lt_of_lt_of_le hb.lt hbw.size
  obtain ⟨wa, hwa⟩ : ∃ u, u = (Lib.bytesWorld w 5 c.o.tx).alloc (.cells #[.slice (some ⟨w.heap.size, 0, none⟩) c.o.tx.size (grownCap w c.o.tx.size 0 5)] 23) := ⟨_, rfl⟩
  have hba : Below w.heap.size w wa := by rw [hwa]; exact hbw.alloc hbw.size _
  have HWA := Lib.hid hwa
  have H := Lib.hid (h.below hba)
  have HC := Lib.hid (And.intro (hb.later hba) hs)
  have HM := Lib.hid (show Mod (fun i => Wr.Stays B K i ∨ i = g) w wa from Mod.of_below hba)
  have HL := Lib.hid hl
  have H32 := Lib.hid h32
  have hmf := mkfn
  have hna1 := nil_wnumber p
  have hna3 := nil_woctets p
  have hna4 := nil_wfixed p
  clear h hb hs hbw hwa hba hk h32 hl
  go_enter Try.func45, Try.ntmps45
  go_wp2_with fail
  rw [← HWA.out]
  clear x2 x37 hcv y2 lg lg2
  go_region_held3 (fun _ => True) (exact trivial)
    (first | (go_at_call 44; refine (wnum_any g 3 _ _ c.o.nd 1 hn _ (H.out.below (by repeat (first | exact B0 _ | apply Bs | apply Bd | apply BdN | apply Ba))) (HC.out.1.later (by repeat (first | exact B0 _ | apply Bs | apply Bd | apply BdN | apply Ba))) HC.out.2 rfl (by have := HL.out; omega)).mono ?_; rintro e w1 ⟨rfl, hw, hm⟩))
  have hbx : Below wa.heap.size wa _ := below_pre hm (by repeat (first | exact B0 _ | apply Bs | apply Bd | apply BdN | apply Ba))
  replace H := Lib.hid hw
  replace HC := Lib.hid (And.intro ((HC.out.1.later (show Below _ _ _ from hbx)).kept hm (HC.out.2.not)) HC.out.2)
  replace HM := Lib.hid (mod_preG HM.out hbx hm)
  replace HL := Lib.hid (show (Wr.putL xs c.o.nd 1).length + 1900 ≤ 140737488355328 by have := wputL_len (xs) (c.o.nd) 1; have := HL.out; omega)
  clear hw hm hbx
  go_wp2_with fail
  go_region_held3 (fun _ => True) (exact trivial)
    (first | (go_at_call 101; refine (wkey_any g c H32.out _ (H.out.below (by repeat (first | exact B0 _ | apply Bs | apply Bd | apply BdN | apply Ba))) (HC.out.1.later (by repeat (first | exact B0 _ | apply Bs | apply Bd | apply BdN | apply Ba))) (by have := HL.out; omega)).mono ?_; rintro e w2 ⟨rfl, hw, hm⟩))
  have hbx : Below w1.heap.size w1 _ := below_pre hm (by repeat (first | exact B0 _ | apply Bs | apply Bd | apply BdN | apply Ba))
  replace H := Lib.hid hw
  replace HC := Lib.hid (And.intro ((HC.out.1.later (show Below _ _ _ from hbx)).kept hm (HC.out.2.not)) HC.out.2)
  replace HM := Lib.hid (mod_preG HM.out hbx hm)
  replace HL := Lib.hid (show (Wr.putL xs c.o.nd 1 ++ c.o.ks).length + 1800 ≤ 140737488355328 by rw [List.length_append, H32.out]; have := HL.out; omega)
  clear hw hm hbx
  go_wp2_with fail
  go_region_held3 (fun _ => True) (exact trivial)
    (first | (go_at_call 44; refine (wnum_any g 36 _ _ c.o.ex 7 hx _ (H.out.below (by repeat (first | exact B0 _ | apply Bs | apply Bd | apply BdN | apply Ba))) (HC.out.1.later (by repeat (first | exact B0 _ | apply Bs | apply Bd | apply BdN | apply Ba))) HC.out.2 (Co.at36 H32.out) (by have := HL.out; omega)).mono ?_; rintro e w3 ⟨rfl, hw, hm⟩))
  have hbx : Below w2.heap.size w2 _ := below_pre hm (by repeat (first | exact B0 _ | apply Bs | apply Bd | apply BdN | apply Ba))
  replace H := Lib.hid hw
  replace HC := Lib.hid (And.intro ((HC.out.1.later (show Below _ _ _ from hbx)).kept hm (HC.out.2.not)) HC.out.2)
  replace HM := Lib.hid (mod_preG HM.out hbx hm)
  replace HL := Lib.hid (show (Wr.putL (Wr.putL xs c.o.nd 1 ++ c.o.ks) c.o.ex 7).length + 1700 ≤ 140737488355328 by have := wputL_len (Wr.putL xs c.o.nd 1 ++ c.o.ks) (c.o.ex) 7; have := HL.out; omega)
  clear hw hm hbx
  go_wp2_with fail
  refine bodyPost_ret (v := .tuple #[]) (by simp [results, Try.results45, go_sem]) rfl ?_
  exact ⟨rfl, H.out, HM.out⟩
end

section
/-- Bytes that lie somewhere, as a string. -/
theorem bytes_str {w : World} {A : Option Addr} {S : Nat → Prop} {n c : Nat} {l : List Int} (h : Rd w S 1 (.slice A n c) n (bts l)) (hn : l.length = n) : (convert 23 9 (.slice A n c)).run Try.prog w = .ok (.string (bs l)) w := by
  rw [run_convert_bytes_string w 23 9 5 A n c Try.underlying23 Try.underlying5 Try.underlying9]
  rcases Nat.eq_zero_or_pos n with h0 | h0
  · subst h0
    have hl : l = [] := List.eq_nil_of_length_eq_zero hn
    subst hl
    cases A with
    | none => rfl
    | some a => exact run_bytesToString w a 0 c [] (by simp [loadCells, loadCellsFrom])
  · obtain ⟨g, o, rfl, _, hc⟩ := h.some_ h0
    have hl : (loadCells ⟨g, o, none⟩ (bts l).length).run Try.prog w = .ok (bts l).toArray w :=
      run_loadCells_list (P := Try.prog) w ⟨g, o, none⟩ (bts l) (fun j v hv => by rw [Addr.add_mid]; exact hc j v hv)
    rw [bts_length, hn] at hl
    exact run_bytesToString w ⟨g, o, none⟩ n c l hl
theorem bytes_rd' (w : World) (s : ByteArray) (hs : s.size ≤ 1000000) (n : Nat) (hn : n = s.size) : Rd (Lib.bytesWorld w 5 s) (fun i => i = w.heap.size) 1 (.slice (some ⟨w.heap.size, 0, none⟩) n (grownCap w s.size 0 5)) n (bts (tb s)) := by
  subst hn; exact bytes_rd w s hs
set_option maxHeartbeats 2000000 in
theorem wop4_any {B : Nat} {K : Nat → Prop} {p : Nat} {xs : List Int} (g : Nat) (c : Co) (hk : c.o.kd = 4) (h32 : c.o.ks.length = 32) (htx : c.o.tx.size ≤ 1024) (w : World) (h : Wr.WrIn B K w p xs) (hb : Blk w g 36 c.L.toArray) (hs : Stay B K g) (hl : xs.length + 2000 ≤ 140737488355328) :
    Calls Try.prog 45 #[wi p, .pointer (some ⟨g, 2, none⟩)] w (WOp B K p g (Wr.octL xs (tb c.o.tx)) w) := by
  have x2 : w.cell? ⟨g, 2, none⟩ = some (.int .i64 4) := (hb.cell 2).trans (by rw [← hk]; rfl)
  have x37 : w.cell? ⟨g, 37, none⟩ = some (.string c.o.tx) := (hb.cell 37).trans (Co.at37 h32)
  have hcv := Lib.run_convert_string_bytes (P := Try.prog) w 9 23 5 c.o.tx Try.underlying9 Try.underlying23 Try.underlying5
  have hbw := bytes_below w c.o.tx
  have y2 : (Lib.bytesWorld w 5 c.o.tx).cell? ⟨g, 2, none⟩ = some (.int .i64 4) := (hbw.cell (p := ⟨g, 2, none⟩) hb.lt).trans x2
  have lg := hb.lt
  have lg2 : g < (Lib.bytesWorld w 5 c.o.tx).heap.size := Nat.lt_of_lt_of_le hb.lt hbw.size
  have hlw : w.heap.size < (Lib.bytesWorld w 5 c.o.tx).heap.size := by rw [Lib.bytesWorld_size]; omega
  obtain ⟨cap, hcap⟩ : ∃ cap, cap = grownCap w c.o.tx.size 0 5 := ⟨_, rfl⟩
  obtain ⟨g5, hg5⟩ : ∃ g5, g5 = (Lib.bytesWorld w 5 c.o.tx).heap.size := ⟨_, rfl⟩
  obtain ⟨wa, hwa⟩ : ∃ u, u = (Lib.bytesWorld w 5 c.o.tx).alloc (.cells #[.slice (some ⟨w.heap.size, 0, none⟩) c.o.tx.size cap] 23) := ⟨_, rfl⟩
  have hba : Below w.heap.size w wa := by rw [hwa]; exact hbw.alloc hbw.size _
  have HWA := Lib.hid hwa
  have HCAP := Lib.hid hcap
  have HG5 := Lib.hid hg5
  have hH : Wr.WrIn B (fun i => K i ∨ (i = w.heap.size ∨ i = g5)) wa p xs := h.keep (L := fun i => K i ∨ (i = w.heap.size ∨ i = g5)) hba (fun i hi => by
    rcases hi with hi | rfl | rfl
    · exact .inr hi
    · exact .inl ⟨Nat.le_refl _, by rw [hwa]; simp; omega⟩
    · exact .inl ⟨by omega, by rw [hwa, hg5]; simp⟩)
  have H := Lib.hid hH
  have HC := Lib.hid (And.intro (hb.later hba) hs)
  have HX := Lib.hid (show Blk wa g5 23 #[.slice (some ⟨w.heap.size, 0, none⟩) c.o.tx.size cap] by rw [hwa, hg5]; exact Blk.new _ _ _)
  have HR := Lib.hid (show Rd wa (fun i => i = w.heap.size) 1 (.slice (some ⟨w.heap.size, 0, none⟩) (tb c.o.tx).length cap) (tb c.o.tx).length (bts (tb c.o.tx)) by
    rw [hwa, hcap]
    exact (bytes_rd' w c.o.tx (by omega) _ (tb_len _)).below (Ba (B0 _) _) (fun i hi => by subst hi; exact hlw))
  have HM := Lib.hid (show Mod (fun i => Wr.Stays B K i ∨ i = g) w wa from Mod.of_below hba)
  have HL := Lib.hid hl
  have H32 := Lib.hid h32
  have HTX := Lib.hid htx
  have hmf := mkfn
  have hna3 := nil_woctets p
  clear h hb hs hbw hwa hba hk h32 hl hH htx hlw hg5
  rw [← hcap] at hcv
  clear hcap
  go_enter Try.func45, Try.ntmps45
  go_wp2_with fail
  rw [← HWA.out, ← HG5.out]
  clear x2 x37 hcv y2 lg lg2
  refine (woct_any (T := fun i => i = w.heap.size) g5 0 23 _ (some ⟨w.heap.size, 0, none⟩) cap (tb c.o.tx) 1024 wa H.out HX.out (.inr (.inr (.inr rfl))) (by rw [tb_len]; rfl) HR.out (fun i hi => by subst hi; exact ⟨H.out.2.1 _ (.inr (.inl rfl)), .inr (.inr (.inl rfl))⟩) (by have := HL.out; have := HTX.out; rw [tb_len]; omega)).mono ?_
  rintro e w1 ⟨rfl, hw, hm⟩
  replace H := Lib.hid (show Wr.WrIn B K w1 p _ from wr_back hw)
  replace HC := Lib.hid (And.intro (HC.out.1.kept hm HC.out.2.more) HC.out.2)
  replace HX := Lib.hid (HX.out.kept hm (fun h => h.2 (.inr (.inr rfl))))
  replace HR := Lib.hid (HR.out.kept hm (fun i hi h => h.2 (.inr (.inl hi))))
  replace HM := Lib.hid (show Mod (fun i => Wr.Stays B K i ∨ i = g) w w1 from HM.out.trans (stays_back hm) (fun i hi => .inl (.inl hi)))
  have hcs := bytes_str HR.out rfl
  rw [tb_len, bs_tb] at hcs
  have x5 : w1.cell? ⟨g5, 0, none⟩ = some (.slice (some ⟨w.heap.size, 0, none⟩) c.o.tx.size cap) := HX.out.cell 0
  have x37 : w1.cell? ⟨g, 37, none⟩ = some (.string c.o.tx) := (HC.out.1.cell 37).trans (Co.at37 H32.out)
  have f37 := HC.out.1.frozen 37
  clear hw hm
  go_wp2_with fail
  refine bodyPost_ret (v := .tuple #[]) (by simp [results, Try.results45, go_sem]) rfl ?_
  obtain ⟨w2, hw2⟩ : ∃ u, u = w1.setCell ⟨g, 37, none⟩ (.string c.o.tx) := ⟨_, rfl⟩
  rw [← hw2]
  have hm2 : Mod (fun j => j = g) w1 w2 := by rw [hw2]; exact (Mod.refl (fun j => j = g) w1).setCell (p := ⟨g, 37, none⟩) (.inl rfl) _
  obtain ⟨h1, h2, S, h6, h7⟩ := H.out
  refine ⟨rfl, ⟨Nat.le_trans h1 hm2.size, fun i hi => Nat.lt_of_lt_of_le (h2 i hi) hm2.size, S, h6, ?_⟩, HM.out.trans hm2 (fun i hi => .inl (.inr hi))⟩
  exact h7.kept hm2 (fun i hi h => HC.out.2.not (h ▸ h6 i hi))
end

section
/-- What a command that may be is. -/
structure CMay (c : Co) : Prop where
  s : 1 ≤ c.s ∧ c.s ≤ 8
  q : 1 ≤ c.q ∧ c.q ≤ 9007199254740991
  kd : 1 ≤ c.o.kd ∧ c.o.kd ≤ 5
  own : oxB c.o c.o.own = true
  nd : 0 ≤ c.o.nd ∧ c.o.nd ≤ 255
  ex : 0 ≤ c.o.ex ∧ c.o.ex ≤ 9007199254740991
  ti : 0 ≤ c.o.ti ∧ c.o.ti ≤ 9007199254740991
  tx : c.o.tx.size ≤ 1024
theorem cmay_of {c : Co} (h : cmB c = true) : CMay c := by
  simp only [cmB, Bool.and_eq_true, wiB_iff, nuB_iff, decide_eq_true_eq] at h
  obtain ⟨h1, h2, h3, h4, h5, h6, h7, h8⟩ := h
  exact ⟨h1, h2, h3, h4, h5, h6, h7, by omega⟩
def opP (xs : List Int) (o : Ox) : List Int :=
  if o.kd = 1 ∨ o.kd = 2 then Wr.putL (Wr.putL xs o.nd 1 ++ o.ks) o.ex 7 else if o.kd = 3 then Wr.putL xs o.nd 1 else if o.kd = 4 then Wr.octL xs (tb o.tx) else Wr.putL xs o.ti 7
def cheadL (c : Co) : List Int := Wr.putL (Wr.putL (Wr.putL [] c.s 1) c.q 7) c.o.kd 1
def cpackP (c : Co) : List Int := opP (cheadL c) c.o
theorem chead_len (c : Co) : (cheadL c).length ≤ 24 := by
  have h1 := wputL_len [] c.s 1
  have h2 := wputL_len (Wr.putL [] c.s 1) c.q 7
  have h3 := wputL_len (Wr.putL (Wr.putL [] c.s 1) c.q 7) c.o.kd 1
  unfold cheadL
  simp at h1
  omega
theorem cpackP_len {c : Co} (h : CMay c) (h32 : c.o.ks.length = 32) : (cpackP c).length ≤ 2000 := by
  have h0 := chead_len c
  unfold cpackP opP
  split
  · have a := wputL_len (cheadL c) c.o.nd 1
    have b := wputL_len (Wr.putL (cheadL c) c.o.nd 1 ++ c.o.ks) c.o.ex 7
    rw [List.length_append, h32] at b
    omega
  · split
    · have a := wputL_len (cheadL c) c.o.nd 1
      omega
    · split
      · have a := woctL_len (cheadL c) (tb c.o.tx)
        rw [tb_len] at a
        have := h.tx
        omega
      · have a := wputL_len (cheadL c) c.o.ti 7
        omega
theorem wop_all {B : Nat} {K : Nat → Prop} {p : Nat} {xs : List Int} (g : Nat) (c : Co) (hm : CMay c) (h32 : c.o.ks.length = 32) (w : World) (h : Wr.WrIn B K w p xs) (hb : Blk w g 36 c.L.toArray) (hs : Stay B K g) (hl : xs.length + 2000 ≤ 140737488355328) :
    Calls Try.prog 45 #[wi p, .pointer (some ⟨g, 2, none⟩)] w (WOp B K p g (opP xs c.o) w) := by
  have hkd := hm.kd
  have hnd := hm.nd
  have hex := hm.ex
  have hti := hm.ti
  unfold opP
  by_cases k1 : c.o.kd = 1
  · rw [if_pos (.inl k1)]; exact wop1_any g c k1 h32 (by omega) (by omega) w h hb hs hl
  · by_cases k2 : c.o.kd = 2
    · rw [if_pos (.inr k2)]; exact wop2_any g c k2 h32 (by omega) (by omega) w h hb hs hl
    · rw [if_neg (by omega)]
      by_cases k3 : c.o.kd = 3
      · rw [if_pos k3]; exact wop3_any g c k3 h32 (by omega) w h hb hs hl
      · rw [if_neg k3]
        by_cases k4 : c.o.kd = 4
        · rw [if_pos k4]; exact wop4_any g c k4 h32 hm.tx w h hb hs hl
        · rw [if_neg k4]; exact wop5_any g c (by omega) h32 (by omega) w h hb hs hl
theorem cmd_bad (c : Co) (W : World) (hk : c.o.ks.length = 32) (hc : cmB c = false) :
    Calls Try.prog 16 #[c.v] W fun e w' => e = .returned (.tuple #[.slice none 0 0, .int .i64 2]) ∧ Below W.heap.size W w' := by
  have HG := Lib.hid (Blk.new W 36 c.L.toArray)
  have HC := Lib.hid hc
  have HK := Lib.hid hk
  clear hc hk
  go_enter Try.func16, Try.ntmps16
  go_wp2_with (first | (refine step_load36 rfl (.tmp 1) rfl W.heap.size rfl c HK.out (blk_range HG.out) ?_) | fail)
  refine (cmay_any c _ HK.out).mono ?_
  rw [HC.out]
  rintro e w1 ⟨rfl, hb⟩
  have HB := Lib.hid (Bt (Ba (B0 W) _) hb)
  clear hb
  go_wp2_with fail
  go_ret2
  exact ⟨rfl, HB.out⟩
set_option maxHeartbeats 2000000 in
theorem cmd_ok (c : Co) (W : World) (hk : c.o.ks.length = 32) (hc : cmB c = true) :
    Calls Try.prog 16 #[c.v] W fun e w' => ∃ A cap, e = .returned (.tuple #[.slice A (cpackP c).length cap, .int .i64 0]) ∧ Fresh W w' A cap (cpackP c) := by
  have HC := Lib.hid hc
  have HMAY := Lib.hid (cmay_of hc)
  have HK := Lib.hid hk
  have HG0 := Lib.hid (Blk.new W 36 c.L.toArray)
  clear hc hk
  go_enter Try.func16, Try.ntmps16
  go_wp2_with (first | (refine step_load36 rfl (.tmp 1) rfl W.heap.size rfl c HK.out (blk_range HG0.out) ?_) | fail)
  refine (cmay_any c _ HK.out).mono ?_
  rw [HC.out]
  rintro e w1 ⟨rfl, hb⟩
  have HB := Lib.hid (Bt (Ba (B0 W) _) hb)
  have HG := Lib.hid (HG0.out.later hb)
  have lg := HG.out.lt
  clear hb
  go_wp2_with fail
  refine (Wr.write_in (fun _ => False) w1 (fun i h => h.elim) w1.heap.size (Nat.le_refl _)).mono ?_
  rintro e w3 ⟨rfl, hw, hb⟩
  obtain ⟨p, hp⟩ : ∃ p, p = w1.heap.size + 1 := ⟨_, rfl⟩
  rw [← hp] at hw ⊢
  obtain ⟨wa, hwa⟩ : ∃ wa, wa = w3.alloc (.cells #[.pointer (some ⟨p, 0, none⟩)] 66) := ⟨_, rfl⟩
  obtain ⟨g5, hg5⟩ : ∃ g5, g5 = w3.heap.size := ⟨_, rfl⟩
  obtain ⟨B, hB⟩ : ∃ B, B = w1.heap.size := ⟨_, rfl⟩
  have HG4 := Lib.hid (show Blk wa W.heap.size 36 c.L.toArray by rw [hwa]; exact (HG.out.later hb).alloc _)
  have H5 := Lib.hid (show Blk wa g5 66 #[.pointer (some ⟨p, 0, none⟩)] by rw [hwa, hg5]; exact Blk.new w3 66 _)
  have H4 := Lib.hid (show Wr.WrIn B (fun i => i = g5) wa p [] by rw [hB, hwa, hg5]; exact hw.keep (L := fun i => i = w3.heap.size) (Ba (B0 w3) _) (fun i hi => .inl (by subst hi; simp)))
  have HB4 := Lib.hid (show Below W.heap.size W wa by rw [hwa]; exact Ba (Bt HB.out hb) _)
  have hSg : Stay B (fun i => i = g5) W.heap.size := .inl (by rw [hB]; exact HG.out.lt)
  have hS5 : Stay B (fun i => i = g5) g5 := .inr rfl
  have HBB := Lib.hid (show W.heap.size ≤ B by rw [hB]; exact HB.out.size)
  have HWA := Lib.hid hwa
  have HG5 := Lib.hid hg5
  clear hw hb hp HB hwa hg5 hB lg
  go_wp2_with fail
  rw [← HWA.out, ← HG5.out]
  have h0 : (Wr.putL [] c.s 1).length ≤ 8 := by have := wputL_len [] c.s 1; simpa using this
  have h00 : (Wr.putL (Wr.putL [] c.s 1) c.q 7).length ≤ 16 := by have := wputL_len (Wr.putL [] c.s 1) c.q 7; omega
  have HL0 := Lib.hid (And.intro h0 h00)
  clear h0 h00
  refine (wnum_any W.heap.size 0 _ _ c.s 1 (by have := HMAY.out.s; omega) wa H4.out HG4.out hSg rfl (by simp)).mono ?_
  rintro e w4 ⟨rfl, hw, hm⟩
  replace H4 := Lib.hid hw
  replace HG4 := Lib.hid (HG4.out.kept hm hSg.not)
  replace H5 := Lib.hid (H5.out.kept hm hS5.not)
  replace HB4 := Lib.hid (Bm HB4.out hm (fun i hi => Nat.le_trans HBB.out hi.1))
  have y5 : w4.cell? ⟨g5, 0, none⟩ = some (.pointer (some ⟨p, 0, none⟩)) := H5.out.cell 0
  have l5 := H5.out.lt
  clear hw hm
  go_wp2_with fail
  refine (wnum_any W.heap.size 1 _ _ c.q 7 (by have := HMAY.out.q; omega) w4 H4.out HG4.out hSg rfl (by have := HL0.out; omega)).mono ?_
  rintro e w5 ⟨rfl, hw, hm⟩
  replace H4 := Lib.hid hw
  replace HG4 := Lib.hid (HG4.out.kept hm hSg.not)
  replace H5 := Lib.hid (H5.out.kept hm hS5.not)
  replace HB4 := Lib.hid (Bm HB4.out hm (fun i hi => Nat.le_trans HBB.out hi.1))
  clear hw hm y5 l5
  have y5 : w5.cell? ⟨g5, 0, none⟩ = some (.pointer (some ⟨p, 0, none⟩)) := H5.out.cell 0
  have l5 := H5.out.lt
  go_wp2_with fail
  refine (wnum_any W.heap.size 2 _ _ c.o.kd 1 (by have := HMAY.out.kd; omega) w5 H4.out HG4.out hSg rfl (by have := HL0.out; omega)).mono ?_
  rintro e w6 ⟨rfl, hw, hm⟩
  replace H4 := Lib.hid (show Wr.WrIn B (fun i => i = g5) w6 p (cheadL c) from hw)
  replace HG4 := Lib.hid (HG4.out.kept hm hSg.not)
  replace H5 := Lib.hid (H5.out.kept hm hS5.not)
  replace HB4 := Lib.hid (Bm HB4.out hm (fun i hi => Nat.le_trans HBB.out hi.1))
  clear hw hm y5 l5
  have y5 : w6.cell? ⟨g5, 0, none⟩ = some (.pointer (some ⟨p, 0, none⟩)) := H5.out.cell 0
  have l5 := H5.out.lt
  go_wp2_with fail
  refine (wop_all W.heap.size c HMAY.out HK.out w6 H4.out HG4.out hSg (by have := chead_len c; omega)).mono ?_
  rintro e w7 ⟨rfl, hw, hm⟩
  have hgg : g5 ≠ W.heap.size := H5.out.ne_ HG4.out (by decide)
  replace H4 := Lib.hid (show Wr.WrIn B (fun i => i = g5) w7 p (cpackP c) from hw)
  replace H5 := Lib.hid (H5.out.kept hm (fun h => h.elim hS5.not hgg))
  replace HB4 := Lib.hid (Bm HB4.out hm (fun i hi => hi.elim (fun h => Nat.le_trans HBB.out h.1) (fun h => Nat.le_of_eq h.symm)))
  clear hw hm y5 l5
  have y5 : w7.cell? ⟨g5, 0, none⟩ = some (.pointer (some ⟨p, 0, none⟩)) := H5.out.cell 0
  have l5 := H5.out.lt
  go_wp2_with fail
  refine (Wr.out_in w7 H4.out (by have := cpackP_len HMAY.out HK.out; omega)).mono ?_
  rintro e w8 ⟨A, cap, rfl, hf⟩
  have HF := Lib.hid hf
  clear hf
  go_wp2_with fail
  go_ret2
  exact ⟨A, cap, rfl, HF.out.post HB4.out (Mod.refl _ _)⟩
end
end Go.Proofs.Ytnphnaggamfoiaa
