/- The walk of note.Encode. No further condition. -/
import Derived.Test.YtbokddacobohnaaNp
namespace Go.Proofs.Ytbokddacobohnaa
open Go.RowKit
attribute [local go_sem ↓] Go.wp_at_zero Go.wp_at_succ

/-- A slice between calls. -/
def Sl (w : World) (e : Ending) (xs : List Int) : Prop := ∃ A c, e = .returned (.slice A xs.length c) ∧ Rd w A (byv xs) ∧ xs.length ≤ c
/-- A writer behind a box: the box, the writer's block, its row. -/
structure Ec (w0 W : World) (t : TypeId) (cs : Array Value) (v : Value) (xs : List Int) : Prop where
  wr : Wr W (w0.heap.size + 2) (w0.heap.size + 1) v xs
  box : Blk W w0.heap.size t cs
  bel : Below w0.heap.size w0 W
section
variable {w0 W W' : World} {t : TypeId} {cs : Array Value} {v v' : Value} {xs ys : List Int}
theorem Ec.big (k : Ec w0 W t cs v xs) : w0.heap.size + 2 ≤ W.heap.size := k.wr.own.lt
theorem Ec.later (k : Ec w0 W t cs v xs) (h : Below W.heap.size W W') : Ec w0 W' t cs v xs := ⟨k.wr.later h, k.box.later h, k.bel.trans (h.mono k.bel.size)⟩
theorem Ec.put (k : Ec w0 W t cs v xs) (h : WrTo W W' (w0.heap.size + 2) (w0.heap.size + 1) v v' ys) : Ec w0 W' t cs v' ys := by
  have hv : ∀ b, v.ownBlock = some b → w0.heap.size + 2 ≤ b := fun b hb => (k.wr.row.lt b hb).1
  refine ⟨h.wr, k.box.fr h.fr ?_, k.bel.trans (h.fr.toBelow k.bel.size ?_)⟩
  · rintro (e | e)
    · omega
    · have := hv _ e; omega
  · rintro b hb (e | e)
    · omega
    · have := hv _ e; omega
end
theorem WrTo.keep {w w' : World} {B g b : Nat} {t : TypeId} {cs : Array Value} {v v' : Value} {xs : List Int} (k : WrTo w w' B g v v' xs) (hb : Blk w b t cs) (hne : b ≠ g) (hv : v.ownBlock ≠ some b) : Blk w' b t cs ∧ v'.ownBlock ≠ some b := by
  have hlt := hb.lt
  refine ⟨hb.fr k.fr (by rintro (e | e); exact hne e; exact hv e), ?_⟩
  rcases k.row with e | ⟨c, e, hc⟩
  · rw [e]; exact hv
  · rw [e]; intro h; injection h with h; omega
section
variable {w0 W W' : World} {t : TypeId} {cs : Array Value} {v v' : Value} {xs ys : List Int}
theorem own_formc {w : World} {base : Nat} {e : TypeId} {size n : Nat} {v : Value} {xs : List Value} (k : w.ownsRow base e size v n xs) : ∃ A c, v = .slice A n c ∧ Rd w A xs ∧ n ≤ c ∧ ∀ ad, A = some ad → base ≤ ad.block := by
  rcases k.2 with ⟨rfl, rfl⟩ | ⟨g, cap, cur, rfl, h4, _, h5, _⟩
  · exact ⟨none, 0, rfl, Rd.of_own k, Nat.le_refl _, fun _ e => by cases e⟩
  · exact ⟨some ⟨g, 0, none⟩, cap, rfl, Rd.of_own k, h5, fun _ e => by injection e with e; subst e; exact h4⟩
theorem Ec.rd_reset (_k : Ec w0 W t cs v xs) {A : Option Addr} {zs : List Value} (h : Rd W A zs) {B : Nat} (hB : w0.heap.size + 2 ≤ B) (hA : ∀ ad, A = some ad → B ≤ ad.block) : Rd (W.setCell ⟨w0.heap.size + 1, 0, none⟩ (.slice none 0 0)) A zs :=
  h.fr (S := fun b => b = w0.heap.size + 1) ((Fr.refl (fun b => b = w0.heap.size + 1) W).setCell (p := ⟨w0.heap.size + 1, 0, none⟩) (.inl rfl) _) fun ad e => by have := hA ad e; omega
/-- The writer is begun anew. -/
theorem Ec.reset (k : Ec w0 W t cs v xs) : Ec w0 (W.setCell ⟨w0.heap.size + 1, 0, none⟩ (.slice none 0 0)) t cs (.slice none 0 0) [] :=
  ⟨⟨k.wr.own.set_ 0 _, World.ownsRow_nil _ _ _ _⟩, k.box.far (by show w0.heap.size ≠ w0.heap.size + 1; omega) _, k.bel.setCell (p := ⟨w0.heap.size + 1, 0, none⟩) (by simp) _⟩
theorem Ec.dr (k : Ec w0 W t cs v xs) : Ec w0 W.drew t cs v xs := k.later (below_drewN (Below.refl _ _) 1)
theorem putE (k : Ec w0 W t cs v xs) (size n : Nat) (z m : Int) (hz : z = size) (hm : m = n) (h1 : 1 ≤ size) (h8 : size ≤ 8) (hn : n < 18446744073709551616) (hx : xs.length ≤ 1000000) :
    Calls Try.prog 16 #[.pointer (some ⟨w0.heap.size + 1, 0, none⟩), .int .i64 z, .int .u64 m] W fun e w' => e = .returned (.pointer (some ⟨w0.heap.size + 1, 0, none⟩)) ∧ ∃ v', WrTo W w' (w0.heap.size + 2) (w0.heap.size + 1) v v' (xs ++ le size n) ∧ Ec w0 w' t cs v' (xs ++ le size n) := by
  subst hz hm
  refine (put_some (w0.heap.size + 2) (w0.heap.size + 1) v xs size n W k.wr h1 h8 hn hx k.big).mono ?_
  rintro e w' ⟨rfl, v', h⟩
  exact ⟨rfl, v', h, k.put h⟩
end
set_option maxRecDepth 100000 in
set_option maxHeartbeats 12800000 in
theorem encode_ok (A : Option Addr) (c : Nat) (l : List En) (seq n1 : Nat) (block : Int) (w : World) (ra : Rd w A (ens l)) (hl : l.length ≤ 1000) (hs : seq < 18446744073709551616) (hn : n1 ≤ 65536) (hwf : ∀ e ∈ l, e.1 < 256 ∧ e.2 < 4294967296) (hb : block ≤ 100000) :
    Calls Try.prog 10 #[.agg #[.int .u64 seq, .int .i64 ((n1 : Int) - 1), .slice A l.length c], .int .i64 block] w fun e w' => Sl w' e (pad (sealL (noteL seq n1 l)) block.toNat) ∧ Below w.heap.size w w' := by
  have HRA := Lib.hid ra
  have HWF := Lib.hid hwf
  have hE0 : Ec w ((w.alloc (.cells #[.int .u64 seq, .int .i64 ((n1 : Int) - 1), .slice A l.length c] 28)).alloc (.cells #[.slice none 0 0] 50)) 28 #[.int .u64 seq, .int .i64 ((n1 : Int) - 1), .slice A l.length c] (.slice none 0 0) [] :=
    ⟨⟨Blk.new_ _ _ _ (by simp), World.ownsRow_nil _ _ _ _⟩, (Blk.new w 28 _).alloc _, ((Below.refl _ _).alloc (Nat.le_refl _) _).alloc (by simp) _⟩
  have HE0 := Lib.hid hE0
  have e1 : IntKind.i64.wrap (n1 : Int) = n1 := IntWalk.i64_in _ (by omega)
  have e2 : IntKind.u64.wrap (n1 : Int) = n1 := by rw [IntKind.wrap_u64]; omega
  obtain ⟨z0, z1, -⟩ := hE0.box.cells3
  clear ra hwf hE0
  go_enter Try.func10, Try.ntmps10
  go_wp2
  generalize (w.alloc (.cells #[.int .u64 seq, .int .i64 ((n1 : Int) - 1), .slice A l.length c] 28)).alloc (.cells #[.slice none 0 0] 50) = W0 at HE0 z0 z1 ⊢
  go_region_held3 (fun w' => w'.cell? ⟨w.heap.size, 0, none⟩ = some (.int .u64 seq) ∧ w'.cell? ⟨w.heap.size, 1, none⟩ = some (.int .i64 ((n1 : Int) - 1)))
    (exact ⟨by assumption, by assumption⟩)
    (first
      | (go_at_call 16; (with_reducible refine (putE HE0.out.dr 1 78 1 78 rfl rfl (by omega) (by omega) (by omega) (by simp)).mono ?_); rintro e w1 ⟨rfl, v1, -, hE1⟩; have HE1 := Lib.hid hE1; clear hE1; obtain ⟨z10, z11, -⟩ := HE1.out.box.cells3)
      | (go_at_call 16; (with_reducible refine (putE HE1.out 8 seq 8 seq rfl rfl (by omega) (by omega) (by omega) (by simp [le_len])).mono ?_); rintro e w2 ⟨rfl, v2, -, hE2⟩; have HE2 := Lib.hid hE2; clear hE2; obtain ⟨z20, z21, -⟩ := HE2.out.box.cells3)
      | (go_at_call 16; (with_reducible refine (putE HE2.out 2 n1 2 n1 rfl rfl (by omega) (by omega) (by omega) (by simp [le_len])).mono ?_); rintro e w3 ⟨rfl, v3, -, hE3⟩; have HE3 := Lib.hid hE3; clear hE3; obtain ⟨z30, z31, z32⟩ := HE3.out.box.cells3))
  go_wp2
  go_loopw [7, 21] (fun _ i wr => ∃ (k : Nat) (v : Value), k ≤ l.length ∧ i = .int .i64 k ∧ Ec w wr 28 #[.int .u64 seq, .int .i64 ((n1 : Int) - 1), .slice A l.length c] v (noteL seq n1 (l.take k))) (fun _ i _ => l.length - (intOf i).toNat)
  case atStart => exact ⟨0, _, by omega, rfl, by have := HE3.out; simpa [noteL, bodyL] using this⟩
  case round =>
    obtain ⟨k, v, hk, rfl, hE⟩ := hrel
    have HE := Lib.hid hE
    by_cases hlt : k < l.length
    · obtain ⟨s, hs⟩ : ∃ s, l[k]? = some s := ⟨_, List.getElem?_eq_getElem hlt⟩
      obtain ⟨x, rfl, c0, c1⟩ := ens_at (HRA.out.later hE.bel) hs
      obtain ⟨s0, s1⟩ := HWF.out s (List.mem_of_getElem? hs)
      have g1 : (k : Int) < l.length := by omega
      have hsn : noteL seq n1 (l.take (k + 1)) = noteL seq n1 (l.take k) ++ le 1 s.1 ++ le 4 s.2 := by rw [take_snoc_pk hs]; unfold noteL; rw [bodyL_snoc]; simp only [List.append_assoc]
      have hln : (noteL seq n1 (l.take k)).length = 11 + k * 5 := by rw [noteL_len, List.length_take]; omega
      have HSN := Lib.hid hsn
      have HLN := Lib.hid hln
      have u1 : IntKind.u64.wrap (s.1 : Int) = s.1 := by rw [IntKind.wrap_u64]; omega
      have u2 : IntKind.u64.wrap (s.2 : Int) = s.2 := by rw [IntKind.wrap_u64]; omega
      clear hE hs hsn hln
      go_wp2
      have hb1 := Blk.new wr 48 #[.int .i64 s.1, .int .i64 s.2]
      have HE1 := Lib.hid (HE.out.later ((Below.refl wr.heap.size wr).alloc (Nat.le_refl _) (.cells #[.int .i64 s.1, .int .i64 s.2] 48)))
      have hne1 : wr.heap.size ≠ w.heap.size + 1 := by have := HE.out.big; omega
      have hno1 := own_blk_ne HE1.out.wr.row hb1 (by decide)
      obtain ⟨z0, z1⟩ := hb1.cells2
      have HB1 := Lib.hid hb1
      have HNO := Lib.hid hno1
      obtain ⟨bx, hbx⟩ : ∃ bx, bx = wr.heap.size := ⟨_, rfl⟩
      generalize wr.alloc (.cells #[.int .i64 s.1, .int .i64 s.2] 48) = W1 at HE1 HB1 HNO z0 z1 ⊢
      rw [← hbx] at HB1 HNO z0 z1 hne1 ⊢
      clear hbx hb1 hno1
      go_region_held3 (fun w' => w'.cell? ⟨bx, 0, none⟩ = some (.int .i64 s.1) ∧ w'.cell? ⟨bx, 1, none⟩ = some (.int .i64 s.2))
        (exact ⟨by assumption, by assumption⟩)
        (first
          | (go_at_call 16; (with_reducible refine (putE HE1.out.dr 1 s.1 1 s.1 rfl rfl (by omega) (by omega) (by omega) (by rw [HLN.out]; omega)).mono ?_); rintro e w1 ⟨rfl, v1, hW1, hE2⟩; have HK1 := Lib.hid (hW1.keep HB1.out hne1 HNO.out); have HE2 := Lib.hid hE2; clear hW1 hE2; obtain ⟨z10, z11⟩ := HK1.out.1.cells2)
          | (go_at_call 16; (with_reducible refine (putE HE2.out 4 s.2 4 s.2 rfl rfl (by omega) (by omega) (by omega) (by rw [List.length_append, HLN.out, le_len]; omega)).mono ?_); rintro e w2 ⟨rfl, v2, hW2, hE3⟩; have HK2 := Lib.hid (hW2.keep HK1.out.1 hne1 HK1.out.2); have HE3 := Lib.hid hE3; clear hW2 hE3; obtain ⟨z20, z21⟩ := HK2.out.1.cells2))
      go_wp2
      go_roundw
      case rel => exact ⟨k + 1, _, by omega, by go_num, by rw [HSN.out]; exact HE3.out⟩
      case measure => simp [intOf]; omega
    · obtain rfl : k = l.length := by omega
      clear hE
      rw [List.take_length] at HE
      have hln : (noteL seq n1 l).length = 11 + l.length * 5 := noteL_len _ _ _
      have HLN := Lib.hid hln
      have HO := Lib.hid (noteL_oct seq n1 l)
      obtain ⟨nl, hnl⟩ : ∃ nl, nl = noteL seq n1 l := ⟨_, rfl⟩
      rw [← hnl] at HE HLN HO
      have HNL := Lib.hid hnl
      clear hln hnl
      go_wp2_with (first
        | (go_at_call 18; (with_reducible refine (bytes_ok (w.heap.size + 2) (w.heap.size + 1) v nl 0 _ HE.out.wr (by rw [HLN.out]; omega) (by decide)).mono ?_); rintro e w5 ⟨r5, rfl, hown5, hB5⟩; have HE5 := Lib.hid (HE.out.later hB5); have hrd5 := own_formc hown5; rw [Int.toNat_zero, pad_long (Nat.zero_le _)] at hrd5; obtain ⟨A5, c5, rfl, hr5, -, -⟩ := hrd5; have HR5 := Lib.hid hr5; clear hown5 hB5 hr5)
        | (go_at_call 17; (with_reducible refine (seal_ok A5 c5 nl _ HR5.out (by rw [HLN.out]; omega) HO.out).mono ?_); rintro e w6 ⟨r6, rfl, hown6, hB6⟩; have HE6 := Lib.hid (HE5.out.later hB6); obtain ⟨A6, c6, rfl, hr6, -, hf6⟩ := own_formc hown6; have HF6 := Lib.hid hf6; clear hf6; have HR6 := Lib.hid hr6; clear hown6 hB6 hr6; have q6 := HE6.out.wr.own.cells1; have f6 := HE6.out.wr.own.frozen 0; have hwr6 := HE6.out.reset; have hrr6 := HE6.out.rd_reset HR6.out HE5.out.big HF6.out; have HWR := Lib.hid hwr6; have HRR := Lib.hid hrr6; clear hwr6 hrr6)
        | (go_at_call 19; (with_reducible refine (wraw_ok (w.heap.size + 2) (w.heap.size + 1) (.slice none 0 0) [] (sealL nl) A6 c6 _ HWR.out.wr HRR.out (by simp) (by rw [sealL_len, HLN.out]; omega) HWR.out.big).mono ?_); rintro e w7 ⟨rfl, v7, hW7⟩; have hE7 := HWR.out.put hW7; rw [List.nil_append] at hE7; have HE7 := Lib.hid hE7; clear hW7 hE7)
        | (go_at_call 18; (with_reducible refine (bytes_ok (w.heap.size + 2) (w.heap.size + 1) v7 (sealL nl) block _ HE7.out.wr (by rw [sealL_len, HLN.out]; omega) (by omega)).mono ?_); rintro e w8 ⟨r8, rfl, hown8, hB8⟩; have HE8 := Lib.hid (HE7.out.later hB8); obtain ⟨A8, c8, rfl, hr8, hc8, -⟩ := own_formc hown8))
      go_ret
      rw [← HNL.out]
      exact ⟨⟨A8, c8, rfl, hr8, hc8⟩, HE8.out.bel⟩
end Go.Proofs.Ytbokddacobohnaa
