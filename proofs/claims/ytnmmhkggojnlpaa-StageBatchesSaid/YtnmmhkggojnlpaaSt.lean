/- The walk of chapter 14's Make. No further condition. -/
import Derived.Test.YtnmmhkggojnlpaaRec
namespace Go.Proofs.Ytnmmhkggojnlpaa
open Go.RowKit

/-- An item of chapter 14. -/
structure Im where
  kind : Int
  lba : Int
  fill : Int
def ImAt (w : World) (p : Addr) (s : Im) : Prop := w.cell? p = some (.int .u8 s.kind) ∧ w.cell? ⟨p.block, p.off + 1, none⟩ = some (.int .i8 s.lba) ∧ w.cell? ⟨p.block, p.off + 2, none⟩ = some (.int .u8 s.fill) ∧ (0 ≤ s.kind ∧ s.kind < 256) ∧ (-128 ≤ s.lba ∧ s.lba ≤ 127) ∧ (0 ≤ s.fill ∧ s.fill < 256)
def ArgI (w : World) (A : Option Addr) (l : List Im) : Prop := ∀ i s, l[i]? = some s → ∃ x, A = some x ∧ ImAt w (x.add (i * 3)) s
theorem ArgI.later {w w' : World} {A : Option Addr} {l : List Im} (h : ArgI w A l) (hb : Below w.heap.size w w') : ArgI w' A l := by
  intro i s hi
  obtain ⟨x, e, c0, c1, c2, r⟩ := h i s hi
  exact ⟨x, e, (hb.cell (World.block_lt_of_cell? w _ c0)).trans c0, (hb.cell (World.block_lt_of_cell? w _ c1)).trans c1, (hb.cell (World.block_lt_of_cell? w _ c2)).trans c2, r⟩
theorem argI_of {w : World} {A : Option Addr} {len : Nat}
    (h : len ≤ maxLen ∧ ∀ i, i < len → ∃ x, A = some x ∧ ∃ (c0 c1 c2 : Int), w.cell? (x.add (i * 3 + 0)) = some (.int .u8 c0) ∧ w.cell? (x.add (i * 3 + 1)) = some (.int .i8 c1) ∧ w.cell? (x.add (i * 3 + 2)) = some (.int .u8 c2) ∧
      (Lit.int .u8 c0).wf = true ∧ (Lit.int .i8 c1).wf = true ∧ (Lit.int .u8 c2).wf = true) :
    ∃ l : List Im, l.length = len ∧ ArgI w A l := by
  obtain ⟨l, hl, hP⟩ := exists_list (fun i (s : Im) => ∃ x, A = some x ∧ ImAt w (x.add (i * 3)) s) len (by
    intro i hi
    obtain ⟨x, hA, c0, c1, c2, h0, h1, h2, w0, w1, w2⟩ := h.2 i hi
    exact ⟨⟨c0, c1, c2⟩, x, hA, h0, by rw [← add_field _ _ _ (by decide)]; exact h1, by rw [← add_field _ _ _ (by decide)]; exact h2, u8_in_ w0, i8_in_ w1, u8_in_ w2⟩)
  exact ⟨l, hl, hP⟩
/-- What Make makes of items, numbered from n on. -/
def mkc (n : Int) (l : List Im) : List Con := l.mapIdx fun i s => (n + i, s.kind % 4, s.lba, [s.fill])
theorem mkc_snoc (n : Int) {l : List Im} {k : Nat} {s : Im} (h : l[k]? = some s) : mkc n (l.take (k + 1)) = mkc n (l.take k) ++ [(n + k, s.kind % 4, s.lba, [s.fill])] := by
  have hk := (List.getElem?_eq_some_iff.1 h).1
  rw [take_snoc_pk h]
  simp [mkc, List.mapIdx_append, Nat.min_eq_left (Nat.le_of_lt hk)]
theorem mkc_len (n : Int) (l : List Im) : (mkc n l).length = l.length := by simp [mkc]
/-- The records' bytes lie in blocks of one byte. -/
def Hd1 (w : World) (l : List Rc) : Prop := ∀ r ∈ l, ∃ g x, r.A = some ⟨g, 0, none⟩ ∧ r.raw = [x] ∧ Blk w g 5 #[.int .u8 x]
theorem Hd1.hd {w : World} {l : List Rc} (h : Hd1 w l) : Hd w l := fun r hr => by
  obtain ⟨g, x, e, e2, k⟩ := h r hr
  rw [e, e2]
  have := Rd.of_blk k 0 1
  simpa [byv] using this
theorem Hd1.fr {w w' : World} {l : List Rc} (h : Hd1 w l) (f : ∀ g cs, Blk w g 5 cs → Blk w' g 5 cs) : Hd1 w' l := fun r hr => by
  obtain ⟨g, x, e, e2, k⟩ := h r hr
  exact ⟨g, x, e, e2, f _ _ k⟩
theorem Hd1.later {w w' : World} {l : List Rc} (h : Hd1 w l) (hb : Below w.heap.size w w') : Hd1 w' l := h.fr fun _ _ k => k.later hb
theorem Hd1.grown {w w' : World} {l : List Rc} (h : Hd1 w l) {base n : Nat} {v : Value} {xs : List Value} (ho : w.ownsRow base 35 4 v n xs) (hg : w.grownBy w' v.ownBlock) : Hd1 w' l := h.fr fun g cs k => k.grown hg (Ne.symm (own_blk_ne ho k (by decide)))
set_option maxRecDepth 100000 in
set_option maxHeartbeats 6400000 in
theorem make_ok (A : Option Addr) (c : Nat) (l : List Im) (from_ : Nat) (w : World) (ra : ArgI w A l) (hl : l.length ≤ 1000) (hf : from_ < 65536) :
    Calls Try.prog 9 #[.slice A l.length c, .int .u16 from_] w fun e w' => ∃ v R, e = .returned v ∧ w'.ownsRow w.heap.size 35 4 v R.length (rcs R) ∧ R.map Rc.con = mkc from_ l ∧ Hd1 w' R ∧ Below w.heap.size w w' := by
  obtain ⟨i0, hi0, hz0, hz1, hz2⟩ := info_parts (show (Try.prog.info? 35).map (fun i => (i.zero, i.size, i.bytes)) = some (some (.agg #[.int .u64 0, .int .i64 0, .int .i64 0, .slice none 0 0]), 4, 48) by kernel_rfl)
  have HRA := Lib.hid ra
  clear ra
  go_enter Try.func9, Try.ntmps9
  go_wp2
  go_loopw [5, 6, 7, 10] (fun v _ _ i wr => ∃ (k : Nat) (R : List Rc), k ≤ l.length ∧ i = .int .i64 k ∧ R.length = k ∧ wr.ownsRow w.heap.size 35 4 v R.length (rcs R) ∧ R.map Rc.con = mkc from_ (l.take k) ∧ Hd1 wr R ∧ Below w.heap.size w wr) (fun _ _ _ i _ => l.length - (intOf i).toNat)
  case atStart => exact ⟨0, [], by omega, rfl, rfl, World.ownsRow_nil _ _ _ _, rfl, fun r hr => by simp at hr, Below.refl _ _⟩
  case round =>
    obtain ⟨k, R, hk, rfl, hRl, hown, hcon, hhd, hB⟩ := hrel
    by_cases hlt : k < l.length
    · obtain ⟨s, hs⟩ : ∃ s, l[k]? = some s := ⟨_, List.getElem?_eq_getElem hlt⟩
      obtain ⟨x, rfl, c0, c1, c2, b0, b1, b2⟩ := HRA.out.later hB k s hs
      have g1 : (k : Int) < l.length := by omega
      have HS := Lib.hid hs
      have HO := Lib.hid hown
      have HC := Lib.hid hcon
      have HH := Lib.hid hhd
      have HB := Lib.hid hB
      clear hs hown hcon hhd hB
      obtain ⟨r, hr⟩ : ∃ r : Rc, r = ⟨from_ + k, s.kind % 4, s.lba, some ⟨wr.heap.size + 1, 0, none⟩, [s.fill], 1⟩ := ⟨_, rfl⟩
      have HRV : Hid (rcv r = [.int .u64 (from_ + k), .int .i64 (s.kind % 4), .int .i64 s.lba, .slice (some ⟨wr.heap.size + 1, 0, none⟩) 1 1]) := Lib.hid (by rw [hr]; rfl)
      have HR := Lib.hid hr
      clear hr
      have hBs := HB.out.size
      go_wp2_with (at_builtin; refine wpList_append_any _ rfl _ _ 25 rfl w.heap.size 35 i0 _ 4 48 Try.underlying25 hi0 hz0 hz1 hz2 rfl (by decide) _ R.length (rcs R) rfl (((HO.out.alloc _).alloc _).alloc _) (some ⟨wr.heap.size + 1 + 1, 0, none⟩) 1 1 (rcv r) rfl rfl (by rw [HRV.out]; exact Rd.blk_all (Blk.new_ _ _ _ (by simp))) (rcv_one r) (by unfold maxLen; omega) (by omega) (by simp; omega) ?_; intro v2 w2 hown2 hg2 hat2; rw [← rcs_snoc] at hown2; have HO2 := Lib.hid hown2; have HG2 := Lib.hid hg2; clear hown2 hg2 hat2)
      go_roundw
      case rel =>
        refine ⟨k + 1, R ++ [r], by omega, by go_num, by simp [hRl], by rw [List.length_append]; exact HO2.out, ?_, ?_, ?_⟩
        · rw [List.map_append, HC.out, mkc_snoc _ HS.out, HR.out]
          rfl
        · refine Hd1.grown ?_ (((HO.out.alloc _).alloc _).alloc _) HG2.out
          intro q hq
          rcases List.mem_append.1 hq with hq | hq
          · exact HH.out.later ((((Below.refl _ _).alloc (Nat.le_refl _) _).alloc (by simp) _).alloc (by simp; omega) _) q hq
          · simp at hq
            subst hq
            rw [HR.out]
            exact ⟨_, _, rfl, rfl, (Blk.new_ _ _ _ (by simp)).alloc _⟩
        · exact (((HB.out.alloc hBs _).alloc (by simp; omega) _).alloc (by simp; omega) _).grown HG2.out (by simp; omega) fun b hb => (HO.out.lt b hb).1
      case measure => simp [intOf]; omega
    · obtain rfl : k = l.length := by omega
      rw [List.take_length] at hcon
      go_wp2
      go_ret
      exact ⟨_, R, rfl, hown, hcon, hhd, hB⟩
end Go.Proofs.Ytnmmhkggojnlpaa
