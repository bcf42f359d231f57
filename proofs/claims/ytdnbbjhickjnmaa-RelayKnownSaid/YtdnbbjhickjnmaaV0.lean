/- A frame's bytes, and the frame of bytes: the plain law. -/
import Derived.Test.YtdnbbjhickjnmaaW11
import Derived.Test.YtdnbbjhickjnmaaR16
namespace Go.Proofs.Ytdnbbjhickjnmaa
open Go.RowKit
set_option maxRecDepth 20000
set_option linter.unusedVariables false
set_option linter.unusedSimpArgs false

namespace Wr
def lay (a : List Int) : List Int := be 2 a.length ++ a
theorem num_two (n : Nat) (h : n < 65536) : num (be 2 (n : Int)) = n := by
  rw [num_be, show p256 2 = 65536 by decide]
  exact Int.emod_eq_of_lt (by omega) (by omega)
theorem lay_two (a r : List Int) : (lay a ++ r).take 2 = be 2 a.length ∧ (lay a ++ r).drop 2 = a ++ r := by
  have h : (be 2 (a.length : Int)).length = 2 := be_length _ _
  unfold lay
  rw [List.append_assoc]
  exact ⟨List.take_left' h, List.drop_left' h⟩
theorem ro_lay (a r : List Int) (most : Int) (h : a.length < 65536) (hm : (a.length : Int) ≤ most) : roE (lay a ++ r) most = 0 ∧ roV (lay a ++ r) most = a ∧ roL (lay a ++ r) most = r := by
  obtain ⟨h1, h2⟩ := lay_two a r
  have hn := num_two a.length h
  have hl : (lay a ++ r).length = 2 + a.length + r.length := by simp [lay, be_length]; omega
  have he : roE (lay a ++ r) most = 0 := by
    unfold roE
    rw [h1, hn, if_neg (by omega), if_neg (by omega), if_neg (by omega)]
  refine ⟨he, ?_, ?_⟩
  · unfold roV; rw [if_pos he, h1, h2, hn, Int.toNat_natCast]; exact List.take_left
  · unfold roL; rw [if_pos he, h1, h2, hn, Int.toNat_natCast]; exact List.drop_left
theorem lay_ro (r : List Int) (hb : Byt r) (most : Int) (h : roE r most = 0) (hl : roL r most = []) : r = lay (roV r most) := by
  have he := h
  unfold roE at h
  split at h
  · omega
  · rename_i h2
    split at h
    · omega
    · split at h
      · omega
      · rename_i hn
        unfold roL at hl
        rw [if_pos he] at hl
        unfold roV lay
        rw [if_pos he]
        have hlen : (r.take 2).length = 2 := by simp; omega
        have h0 := num_nonneg (hb.take 2)
        have hd : (r.drop 2).length ≤ (num (r.take 2)).toNat := by rw [List.drop_eq_nil_iff] at hl; exact hl
        have hd2 : (r.drop 2).length = (num (r.take 2)).toNat := by
          have : (r.drop 2).length = r.length - 2 := by simp
          omega
        rw [List.take_of_length_le hd, hd2, Int.toNat_of_nonneg h0]
        have := be_num (hb.take 2)
        rw [hlen] at this
        rw [this, List.take_append_drop]
theorem be_one (x : Int) (h0 : 0 ≤ x) (h1 : x < 256) : be 1 x = [x] := by
  simp [be]; omega
theorem put_one (xs : List Int) (x : Int) (h0 : 0 ≤ x) (h1 : x < 256) : putE x 1 = 0 ∧ putL xs x 1 = xs ++ [x] := by
  have h256 : p256 (1 : Int).toNat = 256 := by decide
  have h : putE x 1 = 0 := by unfold putE; rw [h256, if_neg (by omega), if_neg (by omega)]
  refine ⟨h, ?_⟩
  unfold putL
  rw [if_pos h, show (1 : Int).toNat = 1 from rfl, be_one x h0 h1]
theorem oct_lay (xs a : List Int) (h : a.length < 65536) : octE a = 0 ∧ octL xs a = xs ++ lay a := by
  constructor
  · unfold octE; rw [if_neg (by omega)]
  · unfold octL lay; rw [if_neg (by omega)]
theorem RdAt.lt {w : World} {S : Nat → Prop} {p : Nat} {L : List Int} (h : RdAt w S p L) : ∀ i, S i → i < w.heap.size := by obtain ⟨_, _, _, _, h⟩ := h; exact h.1
end Wr

def packL (f t : Int) (bs : List Int) : List Int := [] ++ [f] ++ [t] ++ Wr.lay bs

def unE : List Int → Int
  | f :: t :: r => if Wr.roE r 4608 = 0 then (if Wr.roL r 4608 = [] then chkE f t (Wr.roV r 4608).length else 4) else Wr.roE r 4608
  | _ => 3
def unF (ys : List Int) : Int := if unE ys = 0 then ys.headD 0 else 0
def unT (ys : List Int) : Int := if unE ys = 0 then ys.tail.headD 0 else 0
def unB (ys : List Int) : List Int := if unE ys = 0 then Wr.roV (ys.drop 2) 4608 else []

theorem nodeB_bd {f : Int} (h : nodeB f = true) : 1 ≤ f ∧ f ≤ 8 := by
  simpa [nodeB] using h
theorem packL_len (f t : Int) (bs : List Int) : (packL f t bs).length = bs.length + 4 := by
  simp [packL, Wr.lay, Wr.be_length]; omega
theorem pack_un (f t : Int) (bs : List Int) (h : chkE f t bs.length = 0) : unE (packL f t bs) = 0 ∧ unF (packL f t bs) = f ∧ unT (packL f t bs) = t ∧ unB (packL f t bs) = bs := by
  obtain ⟨hf, ht, hn⟩ := chk_ok h
  obtain ⟨r1, r2, r3⟩ := Wr.ro_lay bs [] 4608 (by omega) (by omega)
  rw [List.append_nil] at r1 r2 r3
  have he : unE (packL f t bs) = 0 := by
    simp only [packL, List.nil_append, List.cons_append, unE]
    rw [if_pos r1, if_pos r3, r2, h]
  refine ⟨he, ?_, ?_, ?_⟩
  · unfold unF; rw [if_pos he]; simp [packL]
  · unfold unT; rw [if_pos he]; simp [packL]
  · unfold unB; rw [if_pos he]; simpa [packL] using r2
theorem un_pack (ys : List Int) (hb : Byt ys) (h : unE ys = 0) : chkE (unF ys) (unT ys) (unB ys).length = 0 ∧ packL (unF ys) (unT ys) (unB ys) = ys := by
  match ys, hb, h with
  | f :: t :: r, hb, h =>
    have he := h
    simp only [unE] at h
    split at h
    · rename_i h1
      split at h
      · rename_i h2
        unfold unF unT unB
        rw [if_pos he, if_pos he, if_pos he]
        refine ⟨h, ?_⟩
        have := Wr.lay_ro r (fun x hx => hb x (by simp [hx])) 4608 h1 h2
        simp only [packL, List.nil_append, List.headD_cons, List.tail_cons, List.drop_succ_cons, List.drop_zero, List.cons_append]
        rw [← this]
      · cases h
    · omega
  | [_], hb, h => simp [unE] at h
  | [], hb, h => simp [unE] at h
end Go.Proofs.Ytdnbbjhickjnmaa
