/- The walk of Records. No further condition. -/
import Derived.Test.YtgcmfcdbgimnjaaNv2
namespace Go.Proofs.Ytgcmfcdbgimnjaa
open Go.RowKit
attribute [local go_sem ↓] Go.wp_at_zero Go.wp_at_succ

/-- Records in a row of their own, their bytes in rows of their own. -/
structure Rw (w : World) (B : Nat) (v : Value) (l : List Rc) : Prop where
  row : w.ownsRow B 45 4 v l.length (rcs l)
  data : Dt w B l
section
variable {w w' W W2 : World} {B : Nat} {v v2 : Value} {l : List Rc}
theorem Rw.later (k : Rw w B v l) (hb : Below w.heap.size w w') : Rw w' B v l := ⟨ownsRow_later k.row hb, k.data.later hb⟩
theorem Rw.hd (k : Rw w B v l) : ∃ A c, v = .slice A l.length c ∧ Rd w A (rcs l) ∧ l.length ≤ c ∧ Hd w l := by
  obtain ⟨A, c, e, h1, h2, -⟩ := ofc k.row
  exact ⟨A, c, e, h1, h2, fun r hr => Rd.of_own (k.data r hr)⟩
theorem Rw.push (k : Rw w B v l) (hb : Below w.heap.size w W) (x : Rc) (hx : W.ownsRow B 5 1 (.slice x.A x.raw.length x.c) x.raw.length (byv x.raw)) (hg : W.grownBy W2 v.ownBlock) (ho : W2.ownsRow B 45 4 v2 (l.length + 1) (rcs l ++ rcv x)) : Rw W2 B v2 (l ++ [x]) := by
  have k' := k.later hb
  have fg : Fr (fun b => v.ownBlock = some b) W W2 := Fr.of_grown hg
  refine ⟨by rw [List.length_append, rcs_snoc]; exact ho, fun y hy => ?_⟩
  have hy' : W.ownsRow B 5 1 (.slice y.A y.raw.length y.c) y.raw.length (byv y.raw) := by
    rcases List.mem_append.1 hy with hy | hy
    · exact k'.data y hy
    · simp at hy
      subst hy
      exact hx
  exact ownsRow_fr hy' fg fun b hb e => own_own_ne k'.row hy' (by decide) b e hb
end
set_option maxRecDepth 100000 in
set_option maxHeartbeats 12800000 in
theorem records_ok (B g h : Nat) (used limit : Int) (v : Value) (l : List Rc) (next : Int) (r : Rt) (w : World) (k : NvS w B g h used limit v l next r) (hl : l.length ≤ 100000) (hraw : ∀ x ∈ l, x.raw.length ≤ 100000) :
    Calls Try.prog 13 #[.pointer (some ⟨g, 0, none⟩)] w fun e w' => ∃ v' m, e = .returned v' ∧ m.map Rc.con = l.map Rc.con ∧ Rw w' w.heap.size v' m ∧ Below w.heap.size w w' := by
  obtain ⟨i0, hi0, hz0, hz1, hz2⟩ := info_parts (show (Try.prog.info? 45).map (fun i => (i.zero, i.size, i.bytes)) = some (some (.agg #[.int .u64 0, .int .i64 0, .int .i64 0, .slice none 0 0]), 4, 48) by kernel_rfl)
  obtain ⟨A, c, rfl, hrd, -⟩ := ofc k.row
  have c1 := k.c 1 (.slice A l.length c) rfl
  have HRD := Lib.hid hrd
  have HDT := Lib.hid k.data
  have HRAW := Lib.hid hraw
  clear k hrd hraw
  go_enter Try.func13, Try.ntmps13
  go_wp2
  go_loopw [3, 5, 11] (fun o _ i wr => ∃ (k c' : Nat) (A' : Option Addr) (m : List Rc), k ≤ l.length ∧ i = .int .i64 k ∧ o = .slice A' k c' ∧ m.map Rc.con = (l.take k).map Rc.con ∧ Rw wr w.heap.size o m ∧ Below w.heap.size w wr) (fun _ _ i _ => l.length - (intOf i).toNat)
  case atStart => exact ⟨0, 0, none, [], by omega, rfl, rfl, rfl, ⟨World.ownsRow_nil _ _ _ _, fun x hx => by simp at hx⟩, Below.refl _ _⟩
  case round =>
    obtain ⟨k, c', A', m, hk, rfl, rfl, hm, hR, hB⟩ := hrel
    have hml : m.length = k := by have := congrArg List.length hm; simp at this; omega
    have HR := Lib.hid hR
    have HB := Lib.hid hB
    have HM := Lib.hid hm
    by_cases hlt : k < l.length
    · obtain ⟨s, hs⟩ : ∃ s, l[k]? = some s := ⟨_, List.getElem?_eq_getElem hlt⟩
      have hsm := List.mem_of_getElem? hs
      obtain ⟨y, rfl, a0, a1, a2, a3⟩ := rd_at (HRD.out.later hB) hs
      have g1 : (k : Int) < l.length := by omega
      have hbs := hB.size
      have hba := (Below.refl wr.heap.size wr).alloc (Nat.le_refl _) (.cells #[.int .u64 s.seq, .int .i64 s.kind, .int .i64 s.lba, .slice s.A s.raw.length s.c] 45)
      have hrs : Rd wr s.A (byv s.raw) := (Rd.of_own (HDT.out s hsm)).later hB
      have HOW := Lib.hid (ownrec_ok s _ (hrs.later hba) (by have := HRAW.out s hsm; omega))
      unfold rcAgg at HOW
      have HBA := Lib.hid hba
      have HS := Lib.hid hs
      have hrow := hR.row
      rw [hml] at hrow
      have HRO := Lib.hid hrow
      have HML := Lib.hid hml
      clear hs hsm hm hR hB hba hrs hrow hml
      go_wp2_with (first
        | (go_at_call 26; (with_reducible refine HOW.out.mono ?_); rintro e w2 ⟨A2, c2, rfl, hx2, hb2⟩; have HB2 : Hid (Below wr.heap.size wr (w2.alloc (.cells #[.int .u64 s.seq, .int .i64 s.kind, .int .i64 s.lba, .slice A2 s.raw.length c2] 45))) := Lib.hid ((HBA.out.trans (hb2.mono HBA.out.size)).alloc (Nat.le_trans HBA.out.size hb2.size) _); have HX2 := Lib.hid (own_base (ownsRow_later hx2 ((Below.refl w2.heap.size w2).alloc (Nat.le_refl _) (.cells #[.int .u64 s.seq, .int .i64 s.kind, .int .i64 s.lba, .slice A2 s.raw.length c2] 45))) (b' := w.heap.size) (by simp; omega)); have HRO2 := Lib.hid (ownsRow_later HRO.out HB2.out); have HNW := Lib.hid (Blk.new w2 45 #[.int .u64 s.seq, .int .i64 s.kind, .int .i64 s.lba, .slice A2 s.raw.length c2]); clear hx2 hb2)
        | (at_builtin; (refine wpList_append_any _ rfl _ _ 42 rfl w.heap.size 45 i0 _ 4 48 Try.underlying42 hi0 hz0 hz1 hz2 rfl (by decide) _ k (rcs m) rfl HRO2.out (some ⟨w2.heap.size, 0, none⟩) 1 1 (rcv ⟨s.seq, s.kind, s.lba, A2, s.raw, c2⟩) rfl rfl (Rd.blk_all (xs := rcv ⟨s.seq, s.kind, s.lba, A2, s.raw, c2⟩) HNW.out) (rcv_one _) (by unfold maxLen; omega) (by omega) (Nat.le_trans HB.out.size HB2.out.size) ?_); intro v3 w3 hown3 hg3 hat3; have HP := Lib.hid (HR.out.push HB2.out ⟨s.seq, s.kind, s.lba, A2, s.raw, c2⟩ HX2.out hg3 (by rw [HML.out]; exact hown3)); have HB3 := Lib.hid ((HB.out.trans (HB2.out.mono HB.out.size)).grown hg3 (Nat.le_trans HB.out.size HB2.out.size) (fun b hb => (HRO.out.lt b hb).1)); obtain ⟨A3, c3, rfl, -, -⟩ := own_form hown3; clear hown3 hg3 hat3))
      go_roundw
      case rel => exact ⟨k + 1, c3, A3, _, by omega, by go_num, rfl, by rw [List.map_append, HM.out, take_snoc_pk HS.out, List.map_append]; rfl, HP.out, HB3.out⟩
      case measure => simp [intOf]; omega
    · obtain rfl : k = l.length := by omega
      rw [List.take_length] at HM
      clear hR hB hm hml
      go_wp2
      go_ret
      exact ⟨_, m, rfl, HM.out, HR.out, HB.out⟩
end Go.Proofs.Ytgcmfcdbgimnjaa
