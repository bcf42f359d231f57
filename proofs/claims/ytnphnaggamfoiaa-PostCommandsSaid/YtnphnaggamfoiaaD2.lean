/- The coder that writes, behind the interface: head, longs. -/
import Derived.Test.YtnphnaggamfoiaaD1
import Derived.Test.YtnphnaggamfoiaaC1
import Derived.Handy
namespace Go.Proofs.Ytnphnaggamfoiaa
open Go.RowKit
set_option maxRecDepth 20000
set_option linter.unusedVariables false
set_option linter.unusedSimpArgs false

abbrev wi (p : Nat) : Value := .iface 66 (wv p)
theorem mkfn (fn : Fn) (first cap : Array Value) (w : World) : (Instr.makeFunc fn first cap).run Try.prog w = .ok (.func fn first cap) w := rfl
theorem nil_wnumber (p : Nat) (w : World) : (nilAhead 246 66 (wv p) "causeway/post.number").run Try.prog w = .ok (some false) w := by kernel_rfl
theorem nil_wflag (p : Nat) (w : World) : (nilAhead 246 66 (wv p) "causeway/post.flag").run Try.prog w = .ok (some false) w := by kernel_rfl
theorem nil_woctets (p : Nat) (w : World) : (nilAhead 246 66 (wv p) "causeway/post.octets").run Try.prog w = .ok (some false) w := by kernel_rfl
theorem nil_wmany (p : Nat) (w : World) : (nilAhead 246 66 (wv p) "causeway/post.many").run Try.prog w = .ok (some false) w := by kernel_rfl
theorem nil_wfixed (p : Nat) (w : World) : (nilAhead 246 66 (wv p) "causeway/post.fixed").run Try.prog w = .ok (some false) w := by kernel_rfl

theorem whead_any {B : Nat} {K : Nat → Prop} {p : Nat} {xs : List Int} (g : Nat) (P : Po) (hx : I64 P.fr ∧ I64 P.to ∧ I64 P.te) (w : World) (h : Wr.WrIn B K w p xs) (hb : Blk w g 27 P.cs) (hs : Stay B K g) (hl : xs.length + 24 ≤ 140737488355328) :
    Calls Try.prog 60 #[wi p, .pointer (some ⟨g, 0, none⟩)] w (Wr.WDidIn B K p (Wr.putL (Wr.putL (Wr.putL xs P.fr 1) P.to 1) P.te 7) (.tuple #[]) w) := by
  have H := Lib.hid h
  have HC := Lib.hid (And.intro hb hs)
  have HM := Lib.hid (Mod.refl (Wr.Stays B K) w)
  have HL := Lib.hid hl
  have hmf := mkfn
  have hna := nil_wnumber p
  have lg := hb.lt
  clear h hb hs hl
  go_enter Try.func60, Try.ntmps60
  go_wp2_with fail
  go_region_held3 (fun _ => True) (exact trivial)
    (first | (go_at_call 44; refine (wnum_any g 1 _ _ P.fr 1 hx.1.2 _ (H.out.below (by repeat (first | exact B0 _ | apply Bs | apply Bd | apply BdN | apply Ba))) (by first | exact HC.out.1 | exact HC.out.1.drew) HC.out.2 rfl (by have := HL.out; omega)).mono ?_; rintro e w1 ⟨rfl, hw, hm⟩))
  replace H := Lib.hid hw
  replace HC := Lib.hid (And.intro (show Blk w1 g _ _ by first | exact HC.out.1.kept hm HC.out.2.not | exact HC.out.1.drew.kept hm HC.out.2.not) HC.out.2)
  replace HM := Lib.hid (HM.out.trans (show Mod (Wr.Stays B K) w w1 by first | exact hm | exact (Mod.of_below (Bd (B0 _))).trans hm (fun i hi => .inl hi)) (fun i hi => .inl hi))
  replace HL := Lib.hid (show (Wr.putL xs P.fr 1).length + 16 ≤ 140737488355328 by have := wputL_len xs P.fr 1; have := HL.out; omega)
  clear hw hm
  go_wp2_with fail
  go_region_held3 (fun _ => True) (exact trivial)
    (first | (go_at_call 44; refine (wnum_any g 2 _ _ P.to 1 hx.2.1.2 _ (H.out.below (by repeat (first | exact B0 _ | apply Bs | apply Bd | apply BdN | apply Ba))) (by first | exact HC.out.1 | exact HC.out.1.drew) HC.out.2 rfl (by have := HL.out; omega)).mono ?_; rintro e w2 ⟨rfl, hw, hm⟩))
  replace H := Lib.hid hw
  replace HC := Lib.hid (And.intro (show Blk w2 g _ _ by first | exact HC.out.1.kept hm HC.out.2.not | exact HC.out.1.drew.kept hm HC.out.2.not) HC.out.2)
  replace HM := Lib.hid (HM.out.trans (show Mod (Wr.Stays B K) w1 w2 by first | exact hm | exact (Mod.of_below (Bd (B0 _))).trans hm (fun i hi => .inl hi)) (fun i hi => .inl hi))
  replace HL := Lib.hid (show (Wr.putL (Wr.putL xs P.fr 1) P.to 1).length + 8 ≤ 140737488355328 by have := wputL_len (Wr.putL xs P.fr 1) P.to 1; have := HL.out; omega)
  clear hw hm
  go_wp2_with fail
  go_region_held3 (fun _ => True) (exact trivial)
    (first | (go_at_call 44; refine (wnum_any g 3 _ _ P.te 7 hx.2.2.2 _ (H.out.below (by repeat (first | exact B0 _ | apply Bs | apply Bd | apply BdN | apply Ba))) (by first | exact HC.out.1 | exact HC.out.1.drew) HC.out.2 rfl (by have := HL.out; omega)).mono ?_; rintro e w3 ⟨rfl, hw, hm⟩))
  replace H := Lib.hid hw
  replace HC := Lib.hid (And.intro (show Blk w3 g _ _ by first | exact HC.out.1.kept hm HC.out.2.not | exact HC.out.1.drew.kept hm HC.out.2.not) HC.out.2)
  replace HM := Lib.hid (HM.out.trans (show Mod (Wr.Stays B K) w2 w3 by first | exact hm | exact (Mod.of_below (Bd (B0 _))).trans hm (fun i hi => .inl hi)) (fun i hi => .inl hi))
  replace HL := Lib.hid (show (Wr.putL (Wr.putL (Wr.putL xs P.fr 1) P.to 1) P.te 7).length + 0 ≤ 140737488355328 by have := wputL_len (Wr.putL (Wr.putL xs P.fr 1) P.to 1) P.te 7; have := HL.out; omega)
  clear hw hm
  refine bodyPost_ret (v := .tuple #[]) (by simp [results, Try.results60, go_sem]) rfl ?_
  exact ⟨rfl, H.out, HM.out⟩
end Go.Proofs.Ytnphnaggamfoiaa
