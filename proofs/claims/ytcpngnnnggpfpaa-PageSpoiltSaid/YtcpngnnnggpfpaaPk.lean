/- Bytes, and the walk of Put. No further condition. -/
import Derived.Test.YtcpngnnnggpfpaaByt
import Derived.Deep.RegionLaw
namespace Go.Proofs.Ytcpngnnnggpfpaa
open Go.RowKit
attribute [local go_sem ↓] Go.wp_at_zero Go.wp_at_succ

/-! ### bytes -/
/-- Byte i of a number. -/
def byteAt (n i : Nat) : Int := ((n / 256 ^ i % 256 : Nat) : Int)
/-- A number in so many bytes, its lowest byte first. -/
def le (size n : Nat) : List Int := (List.range size).map (byteAt n)
theorem le_len (size n : Nat) : (le size n).length = size := by simp [le]
theorem le_snoc (k n : Nat) : le (k + 1) n = le k n ++ [byteAt n k] := by simp [le, List.range_succ]

/-- A writer: its block, and the row that it has put. -/
structure Wr (w : World) (B g : Nat) (v : Value) (xs : List Int) : Prop where
  own : Blk w g 61 #[v]
  row : w.ownsRow B 5 1 v xs.length (byv xs)
section
variable {w w' : World} {B g : Nat} {v : Value} {xs : List Int} {S : Nat → Prop}
theorem Wr.fr (k : Wr w B g v xs) (f : Fr S w w') (hg : ¬ S g) (hv : ∀ b, v.ownBlock = some b → ¬ S b) : Wr w' B g v xs := ⟨k.own.fr f hg, ownsRow_fr k.row f hv⟩
theorem Wr.later (k : Wr w B g v xs) (hb : Below w.heap.size w w') : Wr w' B g v xs := ⟨k.own.later hb, ownsRow_later k.row hb⟩
end
/-- What a step of a writer leaves: only its block and its row may have turned; the row is the old one or a new one. -/
structure WrTo (w w' : World) (B g : Nat) (v v' : Value) (xs : List Int) : Prop where
  wr : Wr w' B g v' xs
  fr : Fr (fun b => b = g ∨ v.ownBlock = some b) w w'
  row : v'.ownBlock = v.ownBlock ∨ ∃ b, v'.ownBlock = some b ∧ w.heap.size ≤ b
theorem WrTo.refl {w : World} {B g : Nat} {v : Value} {xs : List Int} (k : Wr w B g v xs) : WrTo w w B g v v xs := ⟨k, Fr.refl _ _, .inl rfl⟩
theorem WrTo.trans {w w1 w2 : World} {B g : Nat} {v v1 v2 : Value} {xs ys : List Int} (k : WrTo w w1 B g v v1 xs) (k' : WrTo w1 w2 B g v1 v2 ys) : WrTo w w2 B g v v2 ys := by
  refine ⟨k'.wr, k.fr.trans k'.fr fun b hb h => ?_, ?_⟩
  · rcases h with rfl | h
    · exact .inl rfl
    · rcases k.row with e | ⟨c, e, hc⟩
      · exact .inr (by rw [← e]; exact h)
      · rw [e] at h
        injection h with h
        omega
  · rcases k'.row with e | ⟨c, e, hc⟩
    · rw [e]; exact k.row
    · exact .inr ⟨c, e, Nat.le_trans k.fr.size hc⟩

theorem WrTo.push {w0 w w1 w2 : World} {B g : Nat} {v v' v2 : Value} {xs ys : List Int} (k : WrTo w0 w B g v v' xs) (h1 : Below w.heap.size w w1) (hg : w1.grownBy w2 v'.ownBlock)
    (hown : w2.ownsRow B 5 1 v2 (xs.length + ys.length) (byv xs ++ byv ys)) (hat : v2.ownBlock = v'.ownBlock ∨ v2.ownBlock = some w1.heap.size) : WrTo w0 (w2.setCell ⟨g, 0, none⟩ v2) B g v v2 (xs ++ ys) := by
  have k1 := k.wr.later h1
  have hne : v'.ownBlock ≠ some g := own_blk_ne k1.row k1.own (by decide)
  have hb2 : Blk w2 g 61 #[v'] := k1.own.grown hg (fun e => hne e.symm)
  have hb3 := hb2.set_ 0 v2
  have f2 : Fr (· = g) w2 (w2.setCell ⟨g, 0, none⟩ v2) := (Fr.refl (· = g) w2).setCell (p := ⟨g, 0, none⟩) (.inl rfl) v2
  have hr2 : w2.ownsRow B 5 1 v2 (xs ++ ys).length (byv (xs ++ ys)) := by rw [List.length_append, byv_app]; exact hown
  have hne2 : ∀ b, v2.ownBlock = some b → ¬ b = g := fun b hb e => own_blk_ne hr2 hb2 (by decide) (by rw [hb, e])
  refine ⟨⟨hb3, ownsRow_fr hr2 f2 hne2⟩, ?_, ?_⟩
  · have fa : Fr (fun b => b = g ∨ v.ownBlock = some b) w0 w2 := ((k.fr.later h1).grown hg fun b hb => by
      rcases k.row with e | ⟨c, e, hc⟩
      · exact .inl (.inr (by rw [← e]; exact hb))
      · rw [e] at hb; injection hb with hb; exact .inr (by omega))
    exact fa.setCell (p := ⟨g, 0, none⟩) (.inl (.inl rfl)) v2
  · rcases hat with e | e
    · rw [e]; exact k.row
    · exact .inr ⟨_, e, Nat.le_trans k.fr.size h1.size⟩
set_option maxHeartbeats 3200000 in
theorem put_some (B g : Nat) (v : Value) (xs : List Int) (size n : Nat) (w : World) (hw : Wr w B g v xs) (h1 : 1 ≤ size) (h8 : size ≤ 8) (_hn : n < 18446744073709551616) (hx : xs.length ≤ 1000000) (hB : B ≤ w.heap.size) :
    Calls Try.prog 27 #[.pointer (some ⟨g, 0, none⟩), .int .i64 size, .int .u64 n] w fun e w' => e = .returned (.pointer (some ⟨g, 0, none⟩)) ∧ ∃ v', WrTo w w' B g v v' (xs ++ le size n) := by
  obtain ⟨i0, hi0, hz0, hz1, hz2⟩ := info_parts (show (Try.prog.info? 5).map (fun i => (i.zero, i.size, i.bytes)) = some (some (.int .u8 0), 1, 1) by kernel_rfl)
  have hsz : ((size : Int) == 0) = false := by simp; omega
  go_enter Try.func27, Try.ntmps27
  go_wp2
  go_loopw [16] (fun i wr => ∃ (k : Nat) (v' : Value), k ≤ size ∧ i = .int .i64 k ∧ WrTo w wr B g v v' (xs ++ le k n)) (fun i _ => size - (intOf i).toNat)
  case atStart => exact ⟨0, v, by omega, rfl, by simpa [le] using WrTo.refl hw⟩
  case round =>
    obtain ⟨k, v', hk, rfl, hW⟩ := hrel
    by_cases hlt : k < size
    · have hc := hW.wr.own.cells1
      have hf := hW.wr.own.frozen 0
      have HW := Lib.hid hW
      clear hW
      have hmul : IntKind.i64.wrap (8 * (k : Int)) = 8 * k := IntWalk.i64_in _ (by omega)
      have g8 : (0 : Int) ≤ 8 * k := by omega
      go_wp2
      have hne : v'.ownBlock ≠ some g := own_blk_ne HW.out.wr.row HW.out.wr.own (by decide)
      have hX : IntKind.u8.wrap ((n : Int) / 2 ^ (8 * (k : Int)).toNat) = byteAt n k := by
        unfold byteAt
        have e1 : (8 * (k : Int)).toNat = 8 * k := by omega
        have e2 : (256 : Nat) ^ k = 2 ^ (8 * k) := by rw [Nat.pow_mul]
        rw [e1, e2, IntKind.wrap_u8]
        simp
      have HNE := Lib.hid hne
      have hB2 := Nat.le_trans hB HW.out.fr.size
      clear hne
      have hca := (HW.out.wr.own.alloc (.cells #[.int .u8 (byteAt n k)] 5)).cells1
      go_region_law
        ((refine step_append_any _ (by rfl) _ _ 47 (by rfl) B 5 i0 (.int .u8 0) 1 1 Try.underlying47 hi0 hz0 hz1 hz2 rfl (by decide) v' (xs ++ le k n).length (byv (xs ++ le k n)) (by rfl) ((HW.out.wr.row.alloc _).drew) (some ⟨wr.heap.size, 0, none⟩) 1 1 [.int .u8 (byteAt n k)] (by rfl) rfl (Rd.one wr _ _ rfl) (by intro u hu; simp at hu; subst hu; rfl) (by rw [List.length_append, le_len]; unfold maxLen; omega) (by rw [List.length_append, le_len]; omega) (by simp; omega) ?_; intro v2 w2 hown2 hg2 hat2; obtain ⟨A2, c2, rfl, -, -⟩ := own_form hown2; have hb2 : Blk w2 g 61 #[v'] := (HW.out.wr.own.alloc _).drew.grown hg2 (fun e => HNE.out e.symm); have hc2 := hb2.cells1; have hf2 := hb2.frozen 0))
      all_goals
        have HP := HW.out.push (ys := [byteAt n k]) ((Below.refl wr.heap.size wr).alloc (Nat.le_refl _) (.cells #[.int .u8 (byteAt n k)] 5)).drew hg2 hown2 hat2
        rw [show (xs ++ le k n).length = xs.length + (le k n).length by simp, List.append_assoc, ← le_snoc] at HP
        go_wp2
        go_roundw
        case rel => exact ⟨k + 1, _, by omega, by go_num, HP⟩
        case measure => simp [intOf]; omega
    · obtain rfl : k = size := by omega
      go_wp2
      go_ret
      exact ⟨rfl, v', hW⟩
end Go.Proofs.Ytcpngnnnggpfpaa
