/- The law's reads: what pages tell, or why nothing. No further condition. -/
import Derived.Test.YtcpngnnnggpfpaaIt
namespace Go.Proofs.Ytcpngnnnggpfpaa
open Go.RowKit
attribute [local go_sem ↓] Go.wp_at_zero Go.wp_at_succ

theorem nf_zero (xs : List Int) (i : Nat) : nf xs i 0 = 0 := by simp [nf, num]
theorem nf_cons {xs : List Int} (ho : Oct xs) {i n : Nat} {x : Int} (hx : xs[i]? = some x) (h8 : n + 1 ≤ 8) : (nf xs i (n + 1) : Int) = x + 256 * (nf xs (i + 1) n : Int) := by
  rw [← nf_cast' ho i h8, ← nf_cast' ho (i + 1) (by omega)]
  obtain ⟨hi, rfl⟩ := List.getElem?_eq_some_iff.1 hx
  rw [List.drop_eq_getElem_cons hi, List.take_succ_cons]
  rfl
set_option maxHeartbeats 3200000 in
theorem at_ok (g : Nat) (A : Option Addr) (c : Nat) (xs : List Int) (i size : Nat) (z y : Int) (hz : z = i) (hy : y = size) (w : World) (hb : Blk w g 47 #[.slice A xs.length c]) (hr : Rd w A (byv xs)) (ho : Oct xs) (hx : xs.length ≤ 1000000) (h : i + size ≤ xs.length) (h8 : size ≤ 8) :
    Calls Try.prog 42 #[.int .i64 z, .int .i64 y, .pointer (some ⟨g, 0, none⟩)] w fun e w' => e = .returned (.int .u64 (nf xs i size)) ∧ w' = w := by
  subst hz hy
  have hc := hb.cells1
  have HR := Lib.hid hr
  have HO := Lib.hid ho
  have hil : (i : Int) ≤ 1000000 := by omega
  have hsl : (size : Int) ≤ 8 := by omega
  clear hb hr ho
  go_enter Try.func42, Try.ntmps42
  go_wp2
  go_loopw [6, 7] (fun n k wr => wr = w ∧ ∃ j : Nat, j ≤ size ∧ k = .int .i64 ((j : Int) - 1) ∧ n = .int .u64 (nf xs (i + j) (size - j))) (fun _ k _ => (intOf k + 1).toNat)
  case atStart => exact ⟨rfl, size, Nat.le_refl _, rfl, by rw [Nat.sub_self, nf_zero]; rfl⟩
  case round =>
    obtain ⟨rfl, j, hj, rfl, rfl⟩ := hrel
    rcases j with _ | j
    · have hd : decide ((0 : Int) ≤ ((0 : Nat) : Int) - 1) = false := by decide
      go_wp2
      go_ret
      exact ⟨by simp, rfl⟩
    · obtain ⟨x, hx1⟩ : ∃ x, xs[i + j]? = some x := ⟨_, List.getElem?_eq_getElem (by omega)⟩
      obtain ⟨ad, rfl, hcx⟩ := HR.out (i + j) (.int .u8 x) (by simp [byv, hx1])
      have hxo := HO.out x (List.mem_of_getElem? hx1)
      have hn := nf_cons HO.out hx1 (n := size - (j + 1)) (by omega)
      rw [show size - (j + 1) + 1 = size - j by omega, show i + j + 1 = i + (j + 1) by omega] at hn
      have hlt := nf_lt HO.out (i + (j + 1)) (n := size - (j + 1)) (by omega)
      have hp : (256 : Nat) ^ (size - (j + 1)) ≤ 256 ^ 7 := Nat.pow_le_pow_right (by decide) (by omega)
      obtain ⟨n, hnn⟩ : ∃ n, n = nf xs (i + (j + 1)) (size - (j + 1)) := ⟨_, rfl⟩
      rw [← hnn] at hn hlt ⊢
      have hn7 : n < 72057594037927936 := Nat.lt_of_lt_of_le hlt hp
      have HN := Lib.hid hn
      obtain ⟨hx0, hx2⟩ := hxo
      have e0 : ((j + 1 : Nat) : Int) - 1 = (j : Int) := by omega
      have w1 : IntKind.u64.wrap ((n : Int) * 256) = n * 256 := by rw [IntKind.wrap_u64]; omega
      have w2 : IntKind.u64.wrap x = x := by rw [IntKind.wrap_u64]; omega
      have w3 : IntKind.u64.wrap ((n : Int) * 256 + x) = n * 256 + x := by rw [IntKind.wrap_u64]; omega
      have hjl : (j : Int) ≤ 8 := by omega
      have hij : (i : Int) + j < xs.length := by omega
      have hnat : ((i : Int) + j).toNat = i + j := by omega
      rw [e0]
      clear hx1 hlt hp hnn hn e0
      go_wp2
      go_roundw
      case rel => exact ⟨trivial, j, by omega, rfl, by rw [HN.out, Int.add_comm x, Int.mul_comm 256]⟩
      case measure => simp [intOf]
/-- The blocks of reads. -/
structure Dr (w0 w : World) (x : Sh) : Prop where
  sh : Blk w w0.heap.size 23 (shA x)
  res : Blk w (w0.heap.size + 1) 28 #[.int .u64 0, .int .i64 0, .int .i64 0, .slice none 0 0, .slice none 0 0]
  non : Blk w (w0.heap.size + 2) 28 #[.int .u64 0, .int .i64 0, .int .i64 0, .slice none 0 0, .slice none 0 0]
  bel : Below w0.heap.size w0 w
section
variable {w0 w w' : World} {x : Sh}
theorem Dr.later (k : Dr w0 w x) (hb : Below w.heap.size w w') : Dr w0 w' x := ⟨k.sh.later hb, k.res.later hb, k.non.later hb, k.bel.trans (hb.mono k.bel.size)⟩
theorem Dr.start (w : World) (x : Sh) : Dr w (((w.alloc (.cells (shA x) 23)).alloc (.cells #[.int .u64 0, .int .i64 0, .int .i64 0, .slice none 0 0, .slice none 0 0] 28)).alloc (.cells #[.int .u64 0, .int .i64 0, .int .i64 0, .slice none 0 0, .slice none 0 0] 28)) x :=
  ⟨((Blk.new w 23 _).alloc _).alloc _, (Blk.new_ _ _ _ (by simp)).alloc _, Blk.new_ _ _ _ (by simp), (((Below.refl _ _).alloc (Nat.le_refl _) _).alloc (by simp) _).alloc (by simp; omega) _⟩
theorem Dr.grown {A : Option Addr} {c n : Nat} {xs : List Int} (k : Dr w0 w x) (hr : Bn w0 w A c n xs) (hg : w.grownBy w' (Value.slice A n c).ownBlock) : Dr w0 w' x :=
  ⟨k.sh.grown hg (fun e => own_blk_ne hr.row k.sh (by decide) e.symm), k.res.grown hg (fun e => own_blk_ne hr.row k.res (by decide) e.symm), k.non.grown hg (fun e => own_blk_ne hr.row k.non (by decide) e.symm), k.bel.grown hg k.bel.size fun b hb => (hr.row.lt b hb).1⟩
theorem Dr.set {G : Nat} (k : Dr w0 w x) (f : Fr (· = G) w w') (hG : w0.heap.size + 2 < G) : Dr w0 w' x :=
  ⟨k.sh.fr f (by omega), k.res.fr f (by omega), k.non.fr f (by omega), k.bel.trans (f.toBelow k.bel.size fun b hb e => by omega)⟩
theorem Dr.zero (k : Dr w0 w x) :
    Blk (((((w.setCell ⟨w0.heap.size + 1, 0, none⟩ (.int .u64 0)).setCell ⟨w0.heap.size + 1, 1, none⟩ (.int .i64 0)).setCell ⟨w0.heap.size + 1, 2, none⟩ (.int .i64 0)).setCell ⟨w0.heap.size + 1, 3, none⟩ (.slice none 0 0)).setCell ⟨w0.heap.size + 1, 4, none⟩ (.slice none 0 0)) (w0.heap.size + 1) 28 #[.int .u64 0, .int .i64 0, .int .i64 0, .slice none 0 0, .slice none 0 0] ∧
    Below w0.heap.size w0 (((((w.setCell ⟨w0.heap.size + 1, 0, none⟩ (.int .u64 0)).setCell ⟨w0.heap.size + 1, 1, none⟩ (.int .i64 0)).setCell ⟨w0.heap.size + 1, 2, none⟩ (.int .i64 0)).setCell ⟨w0.heap.size + 1, 3, none⟩ (.slice none 0 0)).setCell ⟨w0.heap.size + 1, 4, none⟩ (.slice none 0 0)) := by
  obtain ⟨h1, h2⟩ := im_set k.res (.int .u64 0) (.int .i64 0) (.int .i64 0) (.slice none 0 0) (.slice none 0 0)
  exact ⟨h1, k.bel.trans (h2.toBelow k.bel.size fun b hb e => by omega)⟩
end
theorem im_endR {Q : Ending → World → Prop} (t : Array Value) (W : World) {R : Nat} {a b c d e : Value} (hb : Blk W R 28 #[a, b, c, d, e]) {code : Int} (h4 : t.getD 6 undef = .pointer (some ⟨R, 0, none⟩)) (h5 : t.getD 7 undef = .int .i64 code)
    (hQ : Q (.returned (.tuple #[.agg #[a, b, c, d, e], .int .i64 code])) W) : bodyPost Try.prog Try.f18 Q Exit.ret ⟨t, []⟩ W :=
  bodyPost_ret (results_cell2_row (fn := Try.f18) (p := 6) (u := 7) (ty := 28) (by kernel_rfl) _ h4 hb Try.underlying28 rfl (by kernel_rfl)) rfl (by rw [h5]; exact hQ)
/-- And the box of the bytes. -/
structure Dg4 (w0 w : World) (G : Nat) (x : Sh) (A : Option Addr) (c n : Nat) (xs : List Int) : Prop where
  dr : Dr w0 w x
  box : Blk w G 47 #[.slice A n c]
  row : Bn w0 w A c n xs
  lt : w0.heap.size + 2 < G
section
variable {w0 w w' : World} {x : Sh} {G : Nat} {A : Option Addr} {c n : Nat} {xs : List Int}
theorem Dg4.later (k : Dg4 w0 w G x A c n xs) (hb : Below w.heap.size w w') : Dg4 w0 w' G x A c n xs := ⟨k.dr.later hb, k.box.later hb, k.row.later hb, k.lt⟩
theorem Dg4.push {A' : Option Addr} {c' n' : Nat} {ys : List Int} (k : Dg4 w0 w G x A c n xs) (hg : w.grownBy w' (Value.slice A n c).ownBlock) (hr : Bn w0 w' A' c' n' ys) : Dg4 w0 (w'.setCell ⟨G, 0, none⟩ (.slice A' n' c')) G x A' c' n' ys := by
  have b2 := k.box.grown hg (fun e => own_blk_ne k.row.row k.box (by decide) e.symm)
  have f2 : Fr (· = G) w' (w'.setCell ⟨G, 0, none⟩ (.slice A' n' c')) := (Fr.refl (· = G) w').setCell (p := ⟨G, 0, none⟩) (.inl rfl) _
  refine ⟨(k.dr.grown k.row hg).set f2 k.lt, b2.set_ 0 (.slice A' n' c'), ⟨hr.len, ownsRow_fr hr.row f2 fun b hb e => own_blk_ne hr.row b2 (by decide) (by rw [hb, e]), hr.bel.trans (f2.toBelow hr.bel.size fun b hb e => by have := k.lt; omega)⟩, k.lt⟩
theorem Dg4.open_ (k : Dg4 w0 w G x A c n xs) (hg : w.grownBy w' (Value.slice A n c).ownBlock) : w'.cell? ⟨G, 0, none⟩ = some (.slice A n c) ∧ w'.frozen? ⟨G, 0, none⟩ = false := by
  have b2 := k.box.grown hg (fun e => own_blk_ne k.row.row k.box (by decide) e.symm)
  exact ⟨b2.at_ rfl, b2.frozen 0⟩
end
/-- While the image is told: the bytes' box, the image, its rows. -/
structure Dz (w0 w : World) (G X : Nat) (x : Sh) (A : Option Addr) (c n : Nat) (acc : List Int) (sq sg ix : Int) (v3 : Value) (cs : List (Nat × Nat)) (v4 : Value) (ms : List Nat) : Prop where
  dr : Dr w0 w x
  box : Blk w G 47 #[.slice A n c]
  rd : Rd w A (byv acc)
  im : Blk w X 28 #[.int .u64 sq, .int .i64 sg, .int .i64 ix, v3, v4]
  r3 : w.ownsRow (X + 1) 72 2 v3 cs.length (sgs cs)
  r4 : w.ownsRow (X + 1) 3 1 v4 ms.length (mps ms)
  far : G < X ∧ w0.heap.size + 2 < G ∧ ∀ ad, A = some ad → ad.block < X
section
variable {w0 w w' W : World} {G X : Nat} {x : Sh} {A : Option Addr} {c n : Nat} {acc : List Int} {sq sg ix : Int} {v3 v3' v4 v4' : Value} {cs : List (Nat × Nat)} {ms : List Nat}
theorem Dz.later (k : Dz w0 w G X x A c n acc sq sg ix v3 cs v4 ms) (hb : Below w.heap.size w w') : Dz w0 w' G X x A c n acc sq sg ix v3 cs v4 ms := ⟨k.dr.later hb, k.box.later hb, k.rd.later hb, k.im.later hb, ownsRow_later k.r3 hb, ownsRow_later k.r4 hb, k.far⟩
theorem Dz.frame (k : Dz w0 w G X x A c n acc sq sg ix v3 cs v4 ms) (hf : Fr (fun b => X + 1 ≤ b ∨ b = X) w w') : Dr w0 w' x ∧ Blk w' G 47 #[.slice A n c] ∧ Rd w' A (byv acc) := by
  obtain ⟨f1, f2, f3⟩ := k.far
  have hn : ∀ b, b < X → ¬ (X + 1 ≤ b ∨ b = X) := fun b hb h => by omega
  exact ⟨⟨k.dr.sh.fr hf (hn _ (by omega)), k.dr.res.fr hf (hn _ (by omega)), k.dr.non.fr hf (hn _ (by omega)), k.dr.bel.trans (hf.toBelow k.dr.bel.size fun b hb h => by omega)⟩, k.box.fr hf (hn _ f1), k.rd.fr hf fun ad e => hn _ (f3 ad e)⟩
theorem Dz.open3 (k : Dz w0 w G X x A c n acc sq sg ix v3 cs v4 ms) (hb : Below w.heap.size w W) (hg : W.grownBy w' v3.ownBlock) : w'.cell? ⟨X, 3, none⟩ = some v3 ∧ w'.frozen? ⟨X, 3, none⟩ = false := by
  have k' := k.later hb
  have b2 := k'.im.grown hg (fun e => own_blk_ne k'.r3 k'.im (by decide) e.symm)
  exact ⟨b2.at_ rfl, b2.frozen 3⟩
theorem Dz.open4 (k : Dz w0 w G X x A c n acc sq sg ix v3 cs v4 ms) (hb : Below w.heap.size w W) (hg : W.grownBy w' v4.ownBlock) : w'.cell? ⟨X, 4, none⟩ = some v4 ∧ w'.frozen? ⟨X, 4, none⟩ = false := by
  have k' := k.later hb
  have b2 := k'.im.grown hg (fun e => own_blk_ne k'.r4 k'.im (by decide) e.symm)
  exact ⟨b2.at_ rfl, b2.frozen 4⟩
theorem Dz.push3 (k : Dz w0 w G X x A c n acc sq sg ix v3 cs v4 ms) (hb : Below w.heap.size w W) (hg : W.grownBy w' v3.ownBlock) (e : Nat × Nat) (ho : w'.ownsRow (X + 1) 72 2 v3' (cs.length + 1) (sgs cs ++ sgv e)) :
    Dz w0 (w'.setCell ⟨X, 3, none⟩ v3') G X x A c n acc sq sg ix v3' (cs ++ [e]) v4 ms := by
  have k' := k.later hb
  have hv : ∀ b, v3.ownBlock = some b → X + 1 ≤ b := fun b hb => (k'.r3.lt b hb).1
  have b2 := k'.im.grown hg (fun e => own_blk_ne k'.r3 k'.im (by decide) e.symm)
  have f2 : Fr (· = X) w' (w'.setCell ⟨X, 3, none⟩ v3') := (Fr.refl (· = X) w').setCell (p := ⟨X, 3, none⟩) (.inl rfl) v3'
  have fg : Fr (fun b => v3.ownBlock = some b) W w' := Fr.of_grown hg
  have fa : Fr (fun b => v3.ownBlock = some b ∨ b = X) W (w'.setCell ⟨X, 3, none⟩ v3') := (fg.mono fun b _ e => .inl e).trans (f2.mono fun b _ e => .inr e) fun _ _ h => h
  rw [← sgs_snoc] at ho
  obtain ⟨p1, p2, p3⟩ := k'.frame (fa.mono fun b _ h => by rcases h with h | h; exact .inl (hv b h); exact .inr h)
  refine ⟨p1, p2, p3, b2.set_ 3 v3', ?_, ?_, k.far⟩
  · rw [List.length_append]
    exact ownsRow_fr ho f2 fun b hb e => own_blk_ne ho b2 (by decide) (by rw [hb, e])
  · refine ownsRow_fr k'.r4 fa fun b hb h => ?_
    rcases h with h | h
    · exact own_own_ne k'.r4 k'.r3 (by decide) b hb h
    · subst h; exact own_blk_ne k'.r4 k'.im (by decide) hb
theorem Dz.push4 (k : Dz w0 w G X x A c n acc sq sg ix v3 cs v4 ms) (hb : Below w.heap.size w W) (hg : W.grownBy w' v4.ownBlock) (p : Nat) (ho : w'.ownsRow (X + 1) 3 1 v4' (ms.length + 1) (mps ms ++ [.int .i64 ((p : Int) - 1)])) :
    Dz w0 (w'.setCell ⟨X, 4, none⟩ v4') G X x A c n acc sq sg ix v3 cs v4' (ms ++ [p]) := by
  have k' := k.later hb
  have hv : ∀ b, v4.ownBlock = some b → X + 1 ≤ b := fun b hb => (k'.r4.lt b hb).1
  have b2 := k'.im.grown hg (fun e => own_blk_ne k'.r4 k'.im (by decide) e.symm)
  have f2 : Fr (· = X) w' (w'.setCell ⟨X, 4, none⟩ v4') := (Fr.refl (· = X) w').setCell (p := ⟨X, 4, none⟩) (.inl rfl) v4'
  have fg : Fr (fun b => v4.ownBlock = some b) W w' := Fr.of_grown hg
  have fa : Fr (fun b => v4.ownBlock = some b ∨ b = X) W (w'.setCell ⟨X, 4, none⟩ v4') := (fg.mono fun b _ e => .inl e).trans (f2.mono fun b _ e => .inr e) fun _ _ h => h
  rw [← mps_snoc] at ho
  obtain ⟨p1, p2, p3⟩ := k'.frame (fa.mono fun b _ h => by rcases h with h | h; exact .inl (hv b h); exact .inr h)
  refine ⟨p1, p2, p3, b2.set_ 4 v4', ?_, ?_, k.far⟩
  · refine ownsRow_fr k'.r3 fa fun b hb h => ?_
    rcases h with h | h
    · exact own_own_ne k'.r3 k'.r4 (by decide) b hb h
    · subst h; exact own_blk_ne k'.r3 k'.im (by decide) hb
  · rw [List.length_append]
    exact ownsRow_fr ho f2 fun b hb e => own_blk_ne ho b2 (by decide) (by rw [hb, e])
theorem Dz.done (k : Dz w0 w G X x A c n acc sq sg ix v3 cs v4 ms) :
    Blk (((((w.setCell ⟨w0.heap.size + 1, 0, none⟩ (.int .u64 sq)).setCell ⟨w0.heap.size + 1, 1, none⟩ (.int .i64 sg)).setCell ⟨w0.heap.size + 1, 2, none⟩ (.int .i64 ix)).setCell ⟨w0.heap.size + 1, 3, none⟩ v3).setCell ⟨w0.heap.size + 1, 4, none⟩ v4) (w0.heap.size + 1) 28 #[.int .u64 sq, .int .i64 sg, .int .i64 ix, v3, v4] ∧
    (((((w.setCell ⟨w0.heap.size + 1, 0, none⟩ (.int .u64 sq)).setCell ⟨w0.heap.size + 1, 1, none⟩ (.int .i64 sg)).setCell ⟨w0.heap.size + 1, 2, none⟩ (.int .i64 ix)).setCell ⟨w0.heap.size + 1, 3, none⟩ v3).setCell ⟨w0.heap.size + 1, 4, none⟩ v4).ownsRow (X + 1) 72 2 v3 cs.length (sgs cs) ∧
    (((((w.setCell ⟨w0.heap.size + 1, 0, none⟩ (.int .u64 sq)).setCell ⟨w0.heap.size + 1, 1, none⟩ (.int .i64 sg)).setCell ⟨w0.heap.size + 1, 2, none⟩ (.int .i64 ix)).setCell ⟨w0.heap.size + 1, 3, none⟩ v3).setCell ⟨w0.heap.size + 1, 4, none⟩ v4).ownsRow (X + 1) 3 1 v4 ms.length (mps ms) ∧
    Below w0.heap.size w0 (((((w.setCell ⟨w0.heap.size + 1, 0, none⟩ (.int .u64 sq)).setCell ⟨w0.heap.size + 1, 1, none⟩ (.int .i64 sg)).setCell ⟨w0.heap.size + 1, 2, none⟩ (.int .i64 ix)).setCell ⟨w0.heap.size + 1, 3, none⟩ v3).setCell ⟨w0.heap.size + 1, 4, none⟩ v4) := by
  obtain ⟨h1, h2⟩ := im_set k.dr.res (.int .u64 sq) (.int .i64 sg) (.int .i64 ix) v3 v4
  exact ⟨h1, ownsRow_fr k.r3 h2 (fun b hb e => own_blk_ne k.r3 k.dr.res (by decide) (by rw [hb, e])), ownsRow_fr k.r4 h2 (fun b hb e => own_blk_ne k.r4 k.dr.res (by decide) (by rw [hb, e])), k.dr.bel.trans (h2.toBelow k.dr.bel.size fun b hb e => by omega)⟩
end
theorem head_iff (gen g i : Nat) {b : List Int} (ho : Oct b) (hb : 11 ≤ b.length) (hg : gen < 18446744073709551616) (hi : i < 65536) : b.take 11 = [80] ++ le 8 gen ++ le 2 i ↔ headB gen i (b.take (g + 11)) = true := by
  unfold headB
  rw [nf_take b (by omega), nf_take b (by omega), nf_take b (by omega)]
  have hl : (b.take 11).length = 11 := by rw [List.length_take]; omega
  have ho2 := ho.take 11
  have e0 : nf b 0 1 = nf (b.take 11) 0 1 := (nf_take b (by omega)).symm
  have e1 : nf b 1 8 = nf (b.take 11) 1 8 := (nf_take b (by omega)).symm
  have e2 : nf b 9 2 = nf (b.take 11) 9 2 := (nf_take b (by omega)).symm
  rw [e0, e1, e2]
  generalize b.take 11 = h at *
  have hs : h = h.take 1 ++ (h.drop 1).take 8 ++ (h.drop 9).take 2 := by
    rw [show (h.drop 9).take 2 = h.drop 9 from List.take_of_length_le (by rw [List.length_drop]; omega), List.append_assoc, show (h.drop 1).take 8 ++ h.drop 9 = h.drop 1 by
      conv => rhs; rw [← List.take_append_drop 8 (h.drop 1), List.drop_drop], List.take_append_drop]
  constructor
  · intro e
    have h0 : nf h 0 1 = 80 := by rw [e]; exact nf_mid (a := []) (n := 1) (v := 80) (b := le 8 gen ++ le 2 i) (by rw [le1 (by decide)]; simp) rfl (by decide) (by decide)
    have h1 : nf h 1 8 = gen := by rw [e]; exact nf_mid (a := [80]) (b := le 2 i) rfl rfl (by decide) (by omega)
    have h2 : nf h 9 2 = i := by rw [e]; exact nf_mid (a := [80] ++ le 8 gen) (b := []) (by simp) (by simp [le_len]) (by decide) (by omega)
    rw [h0, h1, h2]
    simp
  · intro e
    simp only [Bool.and_eq_true, decide_eq_true_eq] at e
    obtain ⟨⟨h0, h1⟩, h2⟩ := e
    have k0 : h.take 1 = le 1 80 := by
      refine num_inj (ho2.take 1) (le_oct _ _) (by rw [List.length_take, le_len]; omega) ?_
      have := nf_cast' ho2 0 (n := 1) (by decide)
      rw [List.drop_zero] at this
      rw [this, h0, num_le]
    have k1 : (h.drop 1).take 8 = le 8 gen := by
      refine num_inj ((ho2.drop 1).take 8) (le_oct _ _) (by rw [List.length_take, List.length_drop, le_len]; omega) ?_
      rw [nf_cast' ho2 1 (by decide), h1, num_le, Nat.mod_eq_of_lt (by omega)]
    have k2 : (h.drop 9).take 2 = le 2 i := by
      refine num_inj ((ho2.drop 9).take 2) (le_oct _ _) (by rw [List.length_take, List.length_drop, le_len]; omega) ?_
      rw [nf_cast' ho2 9 (by decide), h2, num_le, Nat.mod_eq_of_lt (by omega)]
    rw [hs, k0, k1, k2, le1 (by decide)]
    rfl
set_option maxRecDepth 100000 in
set_option maxHeartbeats 6400000 in
theorem reads_size (x : Sh) (gen : Int) (A : Option Addr) (n c T P g : Nat) (w : World) (hg : Gd x T P g) (hn : n ≠ P) :
    Calls Try.prog 18 #[.agg (shA x), .int .u64 gen, .slice A n c] w fun e w' => ImRes w.heap.size w' e zeroPic 6 ∧ Below w.heap.size w w' := by
  have HG := Lib.hid hg
  have HD := Lib.hid (Dr.start w x)
  unfold shA at HD
  obtain ⟨s0, s1, s2, s3, s4, s5⟩ := HD.out.sh.cells6
  have hd1 : ((n : Int) != (P : Int)) = true := bne_iff_ne.2 (by omega)
  have hd2 : ((n : Int) == (P : Int)) = false := beq_eq_false_iff_ne.2 (by omega)
  clear hg
  go_enter Try.func18, Try.ntmps18
  go_wp2_with (first
    | (go_at_call 26; (with_reducible refine (HG.out.pages _).mono ?_); rintro e w2 ⟨rfl, hb2⟩; have HD2 := Lib.hid (HD.out.later hb2); clear hb2; obtain ⟨r0, r1, r2, r3, r4⟩ := HD2.out.res.cells5; obtain ⟨n0, n1, n2, n3, n4⟩ := HD2.out.non.cells5; have f0 := HD2.out.res.frozen 0; have f1 := HD2.out.res.frozen 1; have f2 := HD2.out.res.frozen 2; have f3 := HD2.out.res.frozen 3; have f4 := HD2.out.res.frozen 4)
    | fail "no")
  exact im_endR _ _ HD2.out.zero.1 rfl rfl ⟨imRes_zero _ _ 6, HD2.out.zero.2⟩
set_option maxRecDepth 100000 in
set_option maxHeartbeats 25600000 in
theorem reads_ok (x : Sh) (gen : Nat) (A : Option Addr) (c : Nat) (pl : List Sc) (T P g s t q l : Nat) (w : World) (hg : Gd x T P g) (hgen : gen < 18446744073709551616) (hP : P ≤ 1000)
    (hs : x.s = s) (ht : x.t = t) (hl : x.l = l) (al1 sl1 : Nat) (ha : x.s * x.t = al1) (hb : x.m - 2 = sl1) (hq : al1 * sl1 = q) (hq1 : al1 ≤ 1000000 ∧ sl1 ≤ 1000 ∧ q ≤ 1000000)
    (hr : Rd w A (scs pl)) (hh : Hsc w pl) (ho : ∀ s ∈ pl, Oct s.raw) (hpl : pl.length = P) (hc : P ≤ c) :
    Calls Try.prog 18 #[.agg (shA x), .int .u64 gen, .slice A P c] w fun e w' => ImRes w.heap.size w' e (decP gen g P s t q l (rws pl)) (decC gen g P s t q l (rws pl)) ∧ Below w.heap.size w w' := by
  have HG := Lib.hid hg
  have HD := Lib.hid (Dr.start w x)
  unfold shA at HD
  obtain ⟨s0, s1, s2, s3, s4, s5⟩ := HD.out.sh.cells6
  have HR := Lib.hid hr
  have HH := Lib.hid hh
  have HO := Lib.hid ho
  have HPL := Lib.hid hpl
  have hg1 := hg.g1
  have hxb : x.b = (g : Int) + 15 := by have := hg.b; omega
  have hxb2 : 16 ≤ x.b ∧ x.b ≤ 1015 := by omega
  have hdC : decC gen g P s t q l (rws pl) = if firstC gen g 0 (rws pl) = 0 then (if picB s t q (restsL g (rws pl)) l = true then 0 else 4) else firstC gen g 0 (rws pl) := by unfold decC; rw [if_pos (by rw [rws_len]; exact hpl)]
  have hdP : decP gen g P s t q l (rws pl) = if decC gen g P s t q l (rws pl) = 0 then picAt (restsL g (rws pl)) s l else zeroPic := rfl
  have HDC := Lib.hid hdC
  have HDP := Lib.hid hdP
  have HXB := Lib.hid hxb
  have hPP : ((P : Int) != (P : Int)) = false := by simp
  obtain ⟨j0, hj0, y0, y1, y2⟩ := info_parts (show (Try.prog.info? 72).map (fun i => (i.zero, i.size, i.bytes)) = some (some (.agg #[.int .i64 0, .int .u64 0]), 2, 16) by kernel_rfl)
  obtain ⟨l0, hl0, x0, x1, x2⟩ := info_parts (show (Try.prog.info? 3).map (fun i => (i.zero, i.size, i.bytes)) = some (some (.int .i64 0), 1, 8) by kernel_rfl)
  generalize decC gen g P s t q l (rws pl) = DC at HDC HDP ⊢
  generalize decP gen g P s t q l (rws pl) = DP at HDP ⊢
  have mq : IntKind.i64.wrap ((al1 : Int) * (sl1 : Int)) = (q : Int) := by rw [show (al1 : Int) * (sl1 : Int) = (q : Int) by rw [← hq]; rfl]; exact IntWalk.i64_in _ (by omega)
  have ma : IntKind.i64.wrap (x.s * x.t) = (al1 : Int) := by rw [ha]; exact IntWalk.i64_in _ (by omega)
  have hmb : 2 ≤ x.m ∧ x.m ≤ 1002 := by omega
  have HMB := Lib.hid hb
  have HS := Lib.hid hs
  have HT := Lib.hid ht
  have HL := Lib.hid hl
  clear hg hr hh ho hpl hxb hdC hdP hs ht hl ha hb
  go_enter Try.func18, Try.ntmps18
  go_wp2_with (first
    | (go_at_call 26; (with_reducible refine (HG.out.pages _).mono ?_); rintro e w2 ⟨rfl, hb2⟩; have HD2 := Lib.hid (HD.out.later hb2); clear hb2)
    | fail "no")
  clear s0 s1 s2 s3 s4 s5 HD hPP
  have HG0 : Hid (Dg4 w (w2.alloc (.cells #[.slice none 0 0] 47)) w2.heap.size x none 0 0 []) := Lib.hid (by
    have hb := (Below.refl w2.heap.size w2).alloc (Nat.le_refl _) (.cells #[.slice none 0 0] 47)
    exact ⟨HD2.out.later hb, Blk.new w2 47 _, ⟨rfl, World.ownsRow_nil _ _ _ _, HD2.out.bel.trans (hb.mono HD2.out.bel.size)⟩, HD2.out.non.lt⟩)
  generalize w2.alloc (.cells #[.slice none 0 0] 47) = W0 at HG0 ⊢
  obtain ⟨G, hG⟩ : ∃ G, G = w2.heap.size := ⟨_, rfl⟩
  rw [← hG] at HG0
  rw [← hG]
  clear hG HD2
  go_loopw [10, 11, 28, 33, 40, 51] (fun _ _ i _ _ _ wr => ∃ (k n : Nat) (acc : List Int) (A' : Option Addr) (c' : Nat), k ≤ P ∧ i = .int .i64 k ∧ n = k * g ∧ acc = restsL g ((rws pl).take k) ∧ firstC gen g 0 (rws pl) = firstC gen g k ((rws pl).drop k) ∧ Oct acc ∧ Dg4 w wr G x A' c' n acc) (fun _ _ i _ _ _ _ => P - (intOf i).toNat)
  case atStart => exact ⟨0, 0, [], none, 0, by omega, rfl, by omega, by simp [restsL], by simp, by simp [Oct], HG0.out⟩
  case round =>
    clear HG0
    obtain ⟨k, n, acc, A', c', hk, rfl, hn, hacc, hfi, hao, hD⟩ := hrel
    have HACC := Lib.hid hacc
    have HFI := Lib.hid hfi
    have HAO := Lib.hid hao
    have HN := Lib.hid hn
    have HD3 := Lib.hid hD
    obtain ⟨t0, t1, t2, t3, t4, t5⟩ := HD3.out.dr.sh.cells6
    clear hacc hfi hao hn
    by_cases hlt : k < P
    · obtain ⟨s, hs⟩ : ∃ s, pl[k]? = some s := ⟨_, List.getElem?_eq_getElem (by rw [HPL.out]; exact hlt)⟩
      have g1 : (k : Int) < P := by omega
      have hsm := List.mem_of_getElem? hs
      have hbe0 := hD.row.bel
      obtain ⟨hs1, hs2⟩ := HH.out.later hbe0 s hsm
      obtain ⟨ad, rfl, hc0⟩ := (HR.out.later hbe0) k (scv s) (scs_get hs)
      unfold scv at hc0
      have hst := firstC_step (gen := gen) (g := g) (rws_get hs)
      have hoc := HO.out s hsm
      have htk : (rws pl).take (k + 1) = (rws pl).take k ++ [s.raw] := take_snoc_pk (rws_get hs)
      obtain ⟨sA, sr, sc⟩ := s
      simp only at hs hsm hs1 hs2 hc0 hst hoc htk
      have hrW : ∀ W, Below wr.heap.size wr W → Rd W sA (byv sr) := fun W h => hs2.later h
      have HRW := Lib.hid hrW
      have HST := Lib.hid hst
      have HTK := Lib.hid htk
      have HOC := Lib.hid hoc
      clear hs hsm hs2 hbe0 hst htk hoc hrW hD
      obtain ⟨cd, hcd⟩ : ∃ cd, cd = oneC gen g k sr := ⟨_, rfl⟩
      rw [← hcd] at HST
      have HCD := Lib.hid hcd
      have hend : cd ≠ 0 → DC = cd ∧ DP = zeroPic := fun hz => by
        have h1 := HDC.out
        rw [HFI.out, HST.out, if_neg hz] at h1
        rw [if_neg hz] at h1
        have h2 := HDP.out
        rw [h1, if_neg hz] at h2
        exact ⟨h1, h2⟩
      have HEND := Lib.hid hend
      clear hcd hend
      by_cases hlen : sr.length = g + 15
      · obtain ⟨ys, hys⟩ : ∃ ys, ys = sr.take (g + 11) := ⟨_, rfl⟩
        obtain ⟨ts, hts⟩ : ∃ ts, ts = sr.drop (g + 11) := ⟨_, rfl⟩
        have hyl : ys.length = g + 11 := by rw [hys, List.length_take]; omega
        have htl : ts.length = 4 := by rw [hts, List.length_drop]; omega
        have hyt : ys ++ ts = sr := by rw [hys, hts, List.take_append_drop]
        have hyo : Oct ys := by rw [hys]; exact HOC.out.take _
        have hto : Oct ts := by rw [hts]; exact HOC.out.drop _
        have hsi := seal_iff hyo hto htl
        rw [hyt] at hsi
        have hcd2 : cd = if sr = sealL ys then (if headB gen k ys = true then 0 else 4) else 5 := by
          rw [HCD.out]
          unfold oneC
          rw [if_pos hlen, ← hys, ← hts]
          by_cases h9 : num ts = cs ys
          · rw [if_pos h9, if_pos (hsi.1 h9)]
          · rw [if_neg h9, if_neg (fun h8 => h9 (hsi.2 h8))]
        have HCD2 := Lib.hid hcd2
        have hsl : (sealL ys).length = g + 15 := by rw [sealL_len, hyl]
        have hcut := fun W => cut_lo_ 47 1 Try.underlying47 (fun _ => by kernel_rfl) sA sr.length sc (g + 11) (x.b - 4) (by rw [HXB.out]; omega) (by omega) W
        have hsd : ∀ W, Rd W sA (byv sr) → Calls Try.prog 17 #[.slice sA (g + 11) sc] W fun e w' => (∃ A6 c6, e = .returned (.slice A6 (g + 15) c6) ∧ Rd w' A6 (byv (sealL ys))) ∧ Below W.heap.size W w' := fun W hW => by
          have h9 := sealed_ok sA sc ys W (by rw [hys, byv_take]; exact hW.take_ _) (by omega) hyo
          rw [hyl, hsl] at h9
          refine h9.mono ?_
          rintro e w' ⟨r6, rfl, hown, hb⟩
          obtain ⟨A6, c6, rfl, hr6, -, -⟩ := own_formc hown
          exact ⟨⟨A6, c6, rfl, hr6⟩, hb⟩
        obtain ⟨r5, hr5⟩ : ∃ r5, r5 = decide (sr = sealL ys) := ⟨_, rfl⟩
        have heq : ∀ W A6 c6, Rd W sA (byv sr) → Rd W A6 (byv (sealL ys)) → Calls Try.prog 15 #[.slice sA sr.length sc, .slice A6 (g + 15) c6] W fun e w' => e = .returned (.bool r5) ∧ Below W.heap.size W w' := fun W A6 c6 h7 h8 => by
          have h9 := equalb_ok sA A6 sc c6 sr (sealL ys) W h7 h8 (by omega)
          rw [hsl, ← hr5] at h9
          refine h9.mono ?_
          rintro e w' ⟨rfl, n9, rfl⟩
          exact ⟨rfl, below_drewN (Below.refl _ _) _⟩
        have d1 : ((sr.length : Int) != x.b) = false := by rw [HXB.out, hlen]; simp
        have d2 : ((sr.length : Int) == x.b) = true := by rw [HXB.out, hlen]; simp
        have HSD := Lib.hid hsd
        have HEQ := Lib.hid heq
        have HYO := Lib.hid hyo
        have HR5 := Lib.hid hr5
        have HYS := Lib.hid hys
        have HLEN := Lib.hid hlen
        clear hys hts hyl htl hyt hyo hto hsi hcd2 hsl hsd heq hr5
        rcases r5 with _ | _
        · have hc5 : cd = 5 := by rw [HCD2.out, if_neg (of_decide_eq_false HR5.out.symm)]
          subst hc5
          clear hlen
          go_wp2_with (first
            | (go_at_call 17; (with_reducible refine (HSD.out _ (HRW.out _ (Below.refl _ _))).mono ?_); rintro e u1 ⟨⟨A6, c6, rfl, hr6⟩, hb1⟩; have HD4 := Lib.hid (HD3.out.later hb1); have HR6 := Lib.hid hr6; have HRu := Lib.hid (HRW.out _ hb1); clear hr6 hb1)
            | (go_at_call 15; (with_reducible refine (HEQ.out u1 A6 c6 HRu.out HR6.out).mono ?_); rintro e u2 ⟨rfl, hb2⟩; have HD5 := Lib.hid (HD4.out.later hb2); clear hb2; obtain ⟨r0, r1, r2, r3, r4⟩ := HD5.out.dr.res.cells5; obtain ⟨n0, n1, n2, n3, n4⟩ := HD5.out.dr.non.cells5; have f0 := HD5.out.dr.res.frozen 0; have f1 := HD5.out.dr.res.frozen 1; have f2 := HD5.out.dr.res.frozen 2; have f3 := HD5.out.dr.res.frozen 3; have f4 := HD5.out.dr.res.frozen 4)
            | fail "no")
          exact im_endR _ _ HD5.out.dr.zero.1 rfl rfl ⟨by rw [(HEND.out (by decide)).1, (HEND.out (by decide)).2]; exact imRes_zero _ _ 5, HD5.out.dr.zero.2⟩
        · have hc5 : cd = if headB gen k ys = true then 0 else 4 := by rw [HCD2.out, if_pos (of_decide_eq_true HR5.out.symm)]
          have HC5 := Lib.hid hc5
          clear hlen hc5
          go_upto_region 12 with (first
            | (go_at_call 17; (with_reducible refine (HSD.out _ (HRW.out _ (Below.refl _ _))).mono ?_); rintro e u1 ⟨⟨A6, c6, rfl, hr6⟩, hb1⟩; have HD4 := Lib.hid (HD3.out.later hb1); have HR6 := Lib.hid hr6; have HRu := Lib.hid (HRW.out _ hb1); clear hr6 hb1)
            | (go_at_call 15; (with_reducible refine (HEQ.out u1 A6 c6 HRu.out HR6.out).mono ?_); rintro e u2 ⟨rfl, hb2⟩; have HD5 := Lib.hid (HD4.out.later hb2); have HRv := Lib.hid (HRu.out.later hb2); clear hb2)
            | fail "no")
          have hk16 : k < 65536 := by omega
          have hsr11 : 11 ≤ sr.length := by rw [HLEN.out]; omega
          have hcut11 := fun W => cut_lo_ 47 1 Try.underlying47 (fun _ => by kernel_rfl) sA sr.length sc 11 11 rfl (by omega) W
          have hhd := head_iff gen g k HOC.out hsr11 hgen hk16
          rw [← HYS.out] at hhd
          obtain ⟨hd, hhd2⟩ : ∃ hd, hd = headB gen k ys := ⟨_, rfl⟩
          rw [← hhd2] at hhd HC5
          have hdec : decide (sr.take 11 = [80] ++ le 8 gen ++ le 2 k) = hd := by
            rcases hd with _ | _
            · exact decide_eq_false fun e => by have := hhd.1 e; cases this
            · exact decide_eq_true (hhd.2 rfl)
          have heq2 : ∀ W B4 d4, Rd W sA (byv sr) → Rd W B4 (byv ([80] ++ le 8 gen ++ le 2 k)) → Calls Try.prog 15 #[.slice sA 11 sc, .slice B4 11 d4] W fun e w' => e = .returned (.bool hd) ∧ Below W.heap.size W w' := fun W B4 d4 h7 h8 => by
            have h9 := equalb_ok sA B4 sc d4 (sr.take 11) ([80] ++ le 8 gen ++ le 2 k) W (by rw [byv_take]; exact h7.take_ _) h8 (by rw [List.length_take]; omega)
            rw [hdec, show (sr.take 11).length = 11 by rw [List.length_take]; omega, show ([(80 : Int)] ++ le 8 gen ++ le 2 k).length = 11 by simp [le_len]] at h9
            refine h9.mono ?_
            rintro e w' ⟨rfl, n9, rfl⟩
            exact ⟨rfl, below_drewN (Below.refl _ _) _⟩
          have u1k : IntKind.u64.wrap (k : Int) = k := by rw [IntKind.wrap_u64]; omega
          have HEQ2 := Lib.hid heq2
          have HHD := Lib.hid hhd2
          have HBb0 : Hid (Bn u2 (u2.alloc (.cells #[.int .u8 80] 5)).drew (some ⟨u2.heap.size, 0, none⟩) 1 1 [80]) := Lib.hid ((Bn.blk (Blk.new u2 5 _) ((Below.refl _ _).alloc (Nat.le_refl _) _) (Nat.le_refl _)).later (below_drewN (Below.refl _ _) 1))
          clear hhd hhd2 hdec heq2 hcut
          go_cut [51] (fun q wx => q = .bool (!hd) ∧ Below u2.heap.size u2 wx)
          case first =>
            go_region_held3 (fun _ => True) (exact trivial)
              (first
                | (go_at_call 37; (with_reducible refine (lputE 8 gen 8 gen rfl rfl _ (by omega) (by omega)).mono ?_); rintro e w3 ⟨B1, d1, rfl, hr3, hb3⟩; (first | (have HBb1 := Lib.hid (HBb0.out.later hb3)) | (have hbk : Below u2.heap.size u2 w3 := Below.trans (below_drewN (Below.refl u2.heap.size u2) 1) hb3; have HBk := Lib.hid (Bn.blk (w0 := u2) (Blk.new w3 5 #[.int .u8 80]) (hbk.alloc hbk.size _) hbk.size); clear hbk)); have HR3 := Lib.hid hr3; clear hr3 hb3)
                | (refine appS HBk.out B1 8 d1 9 (le 8 gen) rfl (le_len _ _) (HR3.out.alloc _) (by omega) (by rfl) _ _ (by rfl) (by rfl) (by rfl) ?_; intro B2 d2 w4 hB4 hg4; have HBb2 := Lib.hid hB4; clear hB4 hg4)
                | (refine appS HBb1.out B1 8 d1 9 (le 8 gen) rfl (le_len _ _) HR3.out (by omega) (by rfl) _ _ (by rfl) (by rfl) (by rfl) ?_; intro B2 d2 w4 hB4 hg4; have HBb2 := Lib.hid hB4; clear hB4 hg4)
                | (go_at_call 37; (with_reducible refine (lputE 2 k 2 k rfl rfl _ (by omega) (by omega)).mono ?_); rintro e w5 ⟨B3, d3, rfl, hr5, hb5⟩; have HBb3 := Lib.hid (HBb2.out.later hb5); have HR5 := Lib.hid hr5; clear hr5 hb5)
                | (refine appS HBb3.out B3 2 d3 11 (le 2 k) rfl (le_len _ _) HR5.out (by omega) (by rfl) _ _ (by rfl) (by rfl) (by rfl) ?_; intro B4 d4 w6 hB6 hg6; have HBb4 := Lib.hid hB6; clear hB6 hg6)
                | (go_at_call 15; (with_reducible refine (HEQ2.out w6 B4 d4 (HRv.out.later HBb4.out.bel) HBb4.out.rd).mono ?_); rintro e w7 ⟨rfl, hb7⟩; have HBF := Lib.hid (HBb4.out.bel.trans (hb7.mono HBb4.out.bel.size)); clear hb7))
            all_goals
              go_wp2_with fail
              go_meet
              exact ⟨rfl, HBF.out⟩
          case rest =>
            obtain ⟨rfl, hb8⟩ := hcut
            have HD6 := Lib.hid (HD5.out.later hb8)
            have HRx := Lib.hid (HRv.out.later hb8)
            clear hb8 hcut11 u1k
            rcases hd with _ | _
            · have hc4 : cd = 4 := by rw [HC5.out]; rfl
              subst hc4
              obtain ⟨r0, r1, r2, r3, r4⟩ := HD6.out.dr.res.cells5
              obtain ⟨n0, n1, n2, n3, n4⟩ := HD6.out.dr.non.cells5
              have f0 := HD6.out.dr.res.frozen 0
              have f1 := HD6.out.dr.res.frozen 1
              have f2 := HD6.out.dr.res.frozen 2
              have f3 := HD6.out.dr.res.frozen 3
              have f4 := HD6.out.dr.res.frozen 4
              go_wp2_with fail
              exact im_endR _ _ HD6.out.dr.zero.1 rfl rfl ⟨by rw [(HEND.out (by decide)).1, (HEND.out (by decide)).2]; exact imRes_zero _ _ 4, HD6.out.dr.zero.2⟩
            · have hc0 : cd = 0 := by rw [HC5.out]; rfl
              subst hc0
              obtain ⟨rs, hrs⟩ : ∃ rs, rs = restL g sr := ⟨_, rfl⟩
              have hrl : rs.length = g := by rw [hrs]; exact restL_len HLEN.out
              have hro : Oct rs := by rw [hrs]; exact restL_oct HOC.out
              have hsr2 : g + 11 ≤ sc := by have := HLEN.out; omega
              obtain ⟨A3, hA3⟩ : ∃ A3, A3 = (if sc = 11 then sA else sA.map (·.add (11 * 1))) := ⟨_, rfl⟩
              have hcm := fun W => cut_lh_ 47 1 Try.underlying47 (fun _ => by kernel_rfl) sA sr.length sc 11 (g + 11) 11 (x.b - 4) rfl (by rw [HXB.out]; omega) (by omega) hsr2 W
              rw [← hA3, show g + 11 - 11 = g by omega] at hcm
              have hr3 : ∀ W, Rd W sA (byv sr) → Rd W A3 (byv rs) := fun W hW => by
                have h9 := (hW.cutg (size := 1) (c := sc) (n := 11) (len := sr.length) (by rw [byv_len, Nat.mul_one]) hs1).take_ g
                rw [← hA3, show 11 * 1 = 11 from rfl, ← byv_drop, ← byv_take] at h9
                rw [hrs]
                unfold restL
                rw [List.drop_take, show g + 11 - 11 = g by omega]
                exact h9
              have HDd := Lib.hid (HD6.out.later (below_drewN (Below.refl _ _) 1))
              have HR3 := Lib.hid (hr3 _ (HRx.out.later (below_drewN (Below.refl _ _) 1)))
              have HRS := Lib.hid hrs
              have HRL := Lib.hid hrl
              have HRO := Lib.hid hro
              have hnb : n + g ≤ 1000000 := by
                have h9 : (k + 1) * g ≤ 1000 * 1000 := Nat.mul_le_mul (by omega) hg1.2
                rw [Nat.succ_mul, ← HN.out] at h9
                exact h9
              have wb : IntKind.i64.wrap (x.b - 4) = x.b - 4 := IntWalk.i64_in _ (by omega)
              obtain ⟨t0, t1, t2, t3, t4, t5⟩ := HD6.out.dr.sh.cells6
              obtain ⟨p0, p1, p2, p3, p4, p5⟩ := HDd.out.dr.sh.cells6
              have b0 := HD6.out.box.cells1
              have b1 := HDd.out.box.cells1
              clear hrs hrl hro hA3 hr3 hs1
              go_upto_region 14 with fail
              go_region_law ((refine appS HDd.out.row A3 g (sc - 11) (n + g) rs rfl HRL.out HR3.out hnb (by rfl) _ _ (by rfl) (by rfl) (by rfl) ?_; intro A9 c9 w9 hB9 hg9; obtain ⟨o9, f9⟩ := HDd.out.open_ hg9; have HD9 := Lib.hid (HDd.out.push hg9 hB9); clear hB9 hg9))
              all_goals
                go_wp2_with fail
                go_roundw
                case rel => exact ⟨k + 1, n + g, acc ++ rs, A9, c9, by omega, by go_num, by rw [HN.out, Nat.succ_mul], by rw [HTK.out, restsL_snoc, ← HACC.out, HRS.out], by rw [HFI.out, HST.out, if_pos rfl], HAO.out.app HRO.out, by first | exact HD9.out | exact HD9.out.later (below_drewN (Below.refl _ _) _)⟩
                case measure => simp [intOf]; omega
      · have hc6 : cd = 6 := by rw [HCD.out]; unfold oneC; rw [if_neg hlen]
        subst hc6
        have d1 : ((sr.length : Int) != x.b) = true := bne_iff_ne.2 (by rw [HXB.out]; omega)
        have d2 : ((sr.length : Int) == x.b) = false := beq_eq_false_iff_ne.2 (by rw [HXB.out]; omega)
        obtain ⟨r0, r1, r2, r3, r4⟩ := HD3.out.dr.res.cells5
        obtain ⟨n0, n1, n2, n3, n4⟩ := HD3.out.dr.non.cells5
        have f0 := HD3.out.dr.res.frozen 0
        have f1 := HD3.out.dr.res.frozen 1
        have f2 := HD3.out.dr.res.frozen 2
        have f3 := HD3.out.dr.res.frozen 3
        have f4 := HD3.out.dr.res.frozen 4
        clear hlen
        go_wp2_with fail
        exact im_endR _ _ HD3.out.dr.zero.1 rfl rfl ⟨by rw [(HEND.out (by decide)).1, (HEND.out (by decide)).2]; exact imRes_zero _ _ 6, HD3.out.dr.zero.2⟩
    · obtain rfl : k = P := by omega
      have hlen : (rws pl).length = k := by rw [rws_len, HPL.out]
      have hfi0 : firstC gen g 0 (rws pl) = 0 := by rw [HFI.out, List.drop_of_length_le (by omega)]; rfl
      have hacc : acc = restsL g (rws pl) := by rw [HACC.out, List.take_of_length_le (by omega)]
      have hdc : DC = if picB s t q acc l = true then 0 else 4 := by rw [HDC.out, if_pos hfi0, hacc]
      have hdp : DP = if DC = 0 then picAt acc s l else zeroPic := by rw [HDP.out, hacc]
      have hnl : acc.length = n := hD.row.len
      have hab : n ≤ 1000000 := by rw [HN.out]; exact Nat.mul_le_mul (show k ≤ 1000 by omega) hg1.2
      have hTa : 12 + 9 * s + 4 * l ≤ n := by
        have h1 := HG.out.all
        have h2 := HG.out.t
        rw [HN.out]
        have h3 := HS.out
        have h4 := HL.out
        omega
      have hsb : s ≤ 3000 ∧ l ≤ 5000 := by
        have h1 := HG.out.t1
        have h2 := HG.out.t
        have h3 := HS.out
        have h4 := HL.out
        omega
      have hcap := hD.row.cap
      have hat : ∀ W (i size : Nat) (z y : Int), z = i → y = size → Blk W G 47 #[.slice A' n c'] → Rd W A' (byv acc) → i + size ≤ n → size ≤ 8 → Calls Try.prog 42 #[.int .i64 z, .int .i64 y, .pointer (some ⟨G, 0, none⟩)] W fun e w' => e = .returned (.int .u64 (nf acc i size)) ∧ w' = W := fun W i size z y h1 h2 h3 h4 h5 h6 => by
        refine at_ok G A' c' acc i size z y h1 h2 W (by rw [hnl]; exact h3) h4 HAO.out (by omega) (by omega) h6
      have HAT := Lib.hid hat
      have HNL := Lib.hid hnl
      have HTA := Lib.hid hTa
      have HDC1 := Lib.hid hdc
      have HDP1 := Lib.hid hdp
      have b2 := nf_lt HAO.out 8 (n := 2) (by decide)
      have b3 := nf_lt HAO.out 10 (n := 2) (by decide)
      have ht1 := hat wr 0 8 0 8 rfl rfl hD.box hD.row.rd (by omega) (by omega)
      have ht2 := hat wr 8 2 8 2 rfl rfl hD.box hD.row.rd (by omega) (by omega)
      have ht3 := hat wr 10 2 10 2 rfl rfl hD.box hD.row.rd (by omega) (by omega)
      obtain ⟨sq, hsq⟩ : ∃ sq, sq = nf acc 0 8 := ⟨_, rfl⟩
      obtain ⟨sg, hsg⟩ : ∃ sg, sg = nf acc 8 2 := ⟨_, rfl⟩
      obtain ⟨ix, hix⟩ : ∃ ix, ix = nf acc 10 2 := ⟨_, rfl⟩
      rw [← hsq] at ht1
      rw [← hsg] at ht2 b2
      rw [← hix] at ht3 b3
      have HT1 := Lib.hid ht1
      have HT2 := Lib.hid ht2
      have HT3 := Lib.hid ht3
      have HSQ := Lib.hid hsq
      have HSG := Lib.hid hsg
      have HIX := Lib.hid hix
      have hrlt : ∀ ad, A' = some ad → ad.block < wr.heap.size := fun ad e => (hD.row.row.lt ad.block (by rw [e]; rfl)).2
      have HRLT := Lib.hid hrlt
      have e1 : IntKind.i64.wrap (sg : Int) = sg := IntWalk.i64_in _ (by omega)
      have e2 : IntKind.i64.wrap (ix : Int) = ix := IntWalk.i64_in _ (by omega)
      have e3 : IntKind.i64.wrap ((sg : Int) - 1) = (sg : Int) - 1 := IntWalk.i64_in _ (by omega)
      obtain ⟨ac, hac⟩ : ∃ ac, (decide ((sg : Int) - 1 < s) && decide ((ix : Int) < t)) = ac := ⟨_, rfl⟩
      have HAC := Lib.hid hac
      clear hlen hfi0 hacc hdc hdp hnl hTa hat ht1 ht2 ht3 hsq hsg hix hrlt hac hD
      go_upto_region 18 with (first
        | (go_at_call 42; (with_reducible refine HT1.out.mono ?_); rintro e w3 ⟨rfl, hw3⟩; subst w3)
        | (go_at_call 42; (with_reducible refine HT2.out.mono ?_); rintro e w3 ⟨rfl, hw3⟩; subst w3)
        | (go_at_call 42; (with_reducible refine HT3.out.mono ?_); rintro e w3 ⟨rfl, hw3⟩; subst w3)
        | fail "no")
      have hdz : Dz w (wr.alloc (.cells #[.int .u64 sq, .int .i64 ((sg : Int) - 1), .int .i64 ix, .slice none 0 0, .slice none 0 0] 28)) G wr.heap.size x A' c' n acc sq ((sg : Int) - 1) ix (.slice none 0 0) [] (.slice none 0 0) [] := by
        have hb := (Below.refl wr.heap.size wr).alloc (Nat.le_refl _) (.cells #[.int .u64 sq, .int .i64 ((sg : Int) - 1), .int .i64 ix, .slice none 0 0, .slice none 0 0] 28)
        exact ⟨HD3.out.dr.later hb, HD3.out.box.later hb, HD3.out.row.rd.later hb, Blk.new wr 28 _, World.ownsRow_nil _ _ _ _, World.ownsRow_nil _ _ _ _, HD3.out.box.lt, HD3.out.lt, HRLT.out⟩
      have HDZ := Lib.hid hdz
      clear HT1 HT2 HT3 hdz e1 e2 e3 t0 t1 t2 t3 t4 t5 HD3 HRLT
      generalize wr.alloc (.cells #[.int .u64 sq, .int .i64 ((sg : Int) - 1), .int .i64 ix, .slice none 0 0, .slice none 0 0] 28) = W1 at HDZ ⊢
      obtain ⟨X, hX⟩ : ∃ X, X = wr.heap.size := ⟨_, rfl⟩
      rw [← hX] at HDZ
      rw [← hX]
      clear hX
      obtain ⟨t0, t1, t2, t3, t4, t5⟩ := HDZ.out.dr.sh.cells6
      obtain ⟨m0, m1, m2, m3, m4⟩ := HDZ.out.im.cells5
      go_cut [14, 15] (fun ok kk wx => ok = .bool ac ∧ kk = .int .i64 12 ∧ wx = W1)
      case first =>
        by_cases h1 : (sg : Int) - 1 < x.s
        · have hd1 : decide ((sg : Int) - 1 < x.s) = true := decide_eq_true h1
          go_wp2_with fail
          go_meet
          refine ⟨?_, rfl, rfl⟩
          rw [← HAC.out, ← HS.out, ← HT.out, hd1]
          rfl
        · have hd1 : decide ((sg : Int) - 1 < x.s) = false := decide_eq_false h1
          go_wp2_with fail
          go_meet
          refine ⟨?_, rfl, rfl⟩
          rw [← HAC.out, ← HS.out, ← HT.out, hd1]
          rfl
      case rest =>
        obtain ⟨rfl, rfl, rfl⟩ := hcut
        go_wp2_with fail
        clear t0 t1 t2 t3 t4 t5 m0 m1 m2 m3 m4
        go_loopw [14, 15, 98] (fun ok kk i w' => ∃ (k k2 : Nat) (v3 : Value), k ≤ s ∧ i = .int .i64 (k : Nat) ∧ k2 = 12 + 9 * k ∧ kk = .int .i64 k2 ∧ ok = .bool (ac && (segsAt acc k).all (fun c => decide (c.1 ≤ 2))) ∧ Dz w w' G X x A' c' n acc sq ((sg : Int) - 1) ix v3 (segsAt acc k) (.slice none 0 0) []) (fun _ _ i _ => s - (intOf i).toNat)
        case atStart => exact ⟨0, 12, _, by omega, rfl, rfl, rfl, by simp [segsAt], HDZ.out⟩
        case round =>
          clear HDZ
          rename World => w9
          obtain ⟨k, k2, v3, hk2, rfl, hkk, rfl, rfl, hZ⟩ := hrel
          have HZ := Lib.hid hZ
          obtain ⟨ok, hok⟩ : ∃ ok, ok = (ac && (segsAt acc k).all (fun c => decide (c.1 ≤ 2))) := ⟨_, rfl⟩
          rw [← hok]
          have HOK := Lib.hid hok.symm
          clear hok
          by_cases hlt : k < s
          · have g1 : (k : Int) < x.s := by have := HS.out; omega
            have hk2b : k2 + 9 ≤ n := by have := HTA.out; omega
            have hn3 := hZ.r3
            rw [segsAt_len] at hn3
            obtain ⟨A3, c3, rfl, -, -, -⟩ := own_formc hn3
            have HRO := Lib.hid hn3
            have hes := segsAt_snoc acc k
            unfold segAt at hes
            rw [← hkk, show 13 + 9 * k = k2 + 1 by omega] at hes
            have b1 := nf_lt HAO.out k2 (n := 1) (by decide)
            obtain ⟨av, hav⟩ : ∃ av, acc[k2]? = some av := ⟨_, List.getElem?_eq_getElem (by rw [HNL.out]; omega)⟩
            have hnf1 : (nf acc k2 1 : Int) = av := by rw [nf_cons HAO.out hav (by decide), nf_zero]; simp
            obtain ⟨a, ha⟩ : ∃ a, a = nf acc k2 1 := ⟨_, rfl⟩
            obtain ⟨b, hb⟩ : ∃ b, b = nf acc (k2 + 1) 8 := ⟨_, rfl⟩
            rw [← ha] at hes b1 hnf1
            rw [← hb] at hes
            subst hnf1
            have hcell : ∀ W, Rd W A' (byv acc) → ∃ ad, A' = some ad ∧ W.cell? (ad.add k2) = some (.int .u8 (a : Int)) := fun W hW => hW k2 (.int .u8 a) (by unfold byv; rw [List.getElem?_map, hav]; rfl)
            obtain ⟨ad, rfl, ce0⟩ := hcell w9 hZ.rd
            have ce1 : w9.drew.cell? (ad.add k2) = some (.int .u8 (a : Int)) := ce0
            have hat1 : ∀ W, Dz w W G X x (some ad) c' n acc sq ((sg : Int) - 1) ix (.slice A3 k c3) (segsAt acc k) (.slice none 0 0) [] → Calls Try.prog 42 #[.int .i64 ((k2 : Int) + 1), .int .i64 8, .pointer (some ⟨G, 0, none⟩)] W fun e w' => e = .returned (.int .u64 b) ∧ w' = W := fun W h => by
              rw [hb]
              exact HAT.out W (k2 + 1) 8 _ _ (by omega) rfl h.box h.rd (by omega) (by omega)
            have HAV : Hid ((byv acc)[k2]? = some (.int .u8 (a : Int))) := Lib.hid (by unfold byv; rw [List.getElem?_map, hav]; rfl)
            have HAT1 := Lib.hid hat1
            have HES := Lib.hid hes
            have f1 : IntKind.i64.wrap (a : Int) = a := IntWalk.i64_in _ (by omega)
            have f2 : IntKind.i64.wrap ((k2 : Int) + 1) = (k2 : Int) + 1 := IntWalk.i64_in _ (by omega)
            have q0 : (0 : Int) ≤ k2 := by omega
            have q1 : (k2 : Int) < n := by omega
            have hok2 : ∀ cc : List (Nat × Nat), (cc ++ [(a, b)]).all (fun c => decide (c.1 ≤ 2)) = (cc.all (fun c => decide (c.1 ≤ 2)) && decide (a ≤ 2)) := fun cc => by rw [List.all_append]; simp
            have HOK2 := Lib.hid hok2
            have hkn : k2 + 9 = 12 + 9 * (k + 1) := by omega
            have HKN := Lib.hid hkn
            have HZd : Hid (Dz w w9.drew G X x (some ad) c' n acc sq ((sg : Int) - 1) ix (.slice A3 k c3) (segsAt acc k) (.slice none 0 0) []) := Lib.hid (hZ.later (below_drewN (Below.refl _ _) 1))
            obtain ⟨t0, t1, t2, t3, t4, t5⟩ := hZ.dr.sh.cells6
            have m3 := hZ.im.cells5.2.2.2.1
            have d3 := HZd.out.im.cells5.2.2.2.1
            have bx0 := hZ.box.cells1
            have bx1 := HZd.out.box.cells1
            have m3o : ∀ o, (w9.alloc o).drew.cell? ⟨X, 3, none⟩ = some (.slice A3 k c3) := fun o => ((HZd.out.im.alloc o)).cells5.2.2.2.1
            have bxo : ∀ o, (w9.alloc o).drew.cell? ⟨G, 0, none⟩ = some (.slice (some ad) n c') := fun o => ((HZd.out.box.alloc o)).cells1
            clear ha hb hav hcell hat1 hes hZ hn3 hok2 hkk hkn
            go_upto_region 21 with fail
            have HROd : Hid (w9.drew.ownsRow (X + 1) 72 2 (.slice A3 k c3) k (sgs (segsAt acc k))) := Lib.hid (ownsRow_later HRO.out (below_drewN (Below.refl _ _) 1))
            have hXw : X + 1 ≤ w9.heap.size := HZ.out.im.lt
            go_cut [] (fun wx => ∃ v, Dz w wx G X x (some ad) c' n acc sq ((sg : Int) - 1) ix v (segsAt acc k ++ [(a, b)]) (.slice none 0 0) [])
            case first =>
              go_region_law (first
                | (go_simp; go_at_call 42; (with_reducible refine (HAT1.out _ HZd.out).mono ?_); rintro e w3 ⟨rfl, hw3⟩; subst w3)
                | (go_simp; (with_reducible refine (HAT1.out _ HZd.out).mono ?_); rintro e w3 ⟨rfl, hw3⟩; subst w3)
                | ((with_reducible refine (HAT1.out _ HZd.out).mono ?_); rintro e w3 ⟨rfl, hw3⟩; subst w3)
                | (refine step_append_any _ (by rfl) _ _ 25 (by rfl) (X + 1) 72 j0 _ 2 16 Try.underlying25 hj0 y0 y1 y2 rfl (by decide) (.slice A3 k c3) k (sgs (segsAt acc k)) (by rfl) (HROd.out.alloc _) (some ⟨w9.heap.size, 0, none⟩) 1 1 (sgv (a, b)) (by rfl) rfl (Rd.blk_all (Blk.new_ _ _ _ rfl)) (by intro u hu; simp [sgv] at hu; rcases hu with rfl | rfl <;> rfl) (by unfold maxLen; omega) (by omega) (by simp; omega) ?_; intro v8 w8 hown8 hg8 hat8; obtain ⟨A9, c9, rfl, -, -, -⟩ := own_formc hown8; obtain ⟨p8, f8⟩ := HZd.out.open3 ((Below.refl _ _).alloc (Nat.le_refl _) _) hg8; have HP := Lib.hid (HZd.out.push3 ((Below.refl _ _).alloc (Nat.le_refl _) _) hg8 (a, b) (by rw [segsAt_len]; exact hown8)); clear hown8 hg8 hat8)
                | fail "no")
              all_goals
                go_wp2_with fail
                go_meet
                exact ⟨_, HP.out⟩
            case rest =>
              obtain ⟨v8, hZ8⟩ := hcut
              have HZ8 := Lib.hid hZ8
              have ce8 : wc.cell? (ad.add k2) = some (.int .u8 (a : Int)) := by
                obtain ⟨ad', hae, h9⟩ := hZ8.rd k2 (.int .u8 a) (HAV.out)
                injection hae with hae
                subst hae
                exact h9
              have bx8 := hZ8.box.cells1
              have f9 : IntKind.i64.wrap ((k2 : Int) + 9) = (k2 : Int) + 9 := IntWalk.i64_in _ (by omega)
              clear hZ8 HROd HZd HZ HRO t0 t1 t2 t3 t4 t5 m3 d3 bx0 bx1 m3o bxo ce0 ce1 f2
              rcases ok with _ | _
              · go_wp2_with fail
                go_roundw
                case rel => exact ⟨k + 1, k2 + 9, v8, by omega, by go_num, HKN.out, by go_num, congrArg Value.bool (by rw [HES.out, HOK2.out, ← Bool.and_assoc, HOK.out]; rfl), by rw [HES.out]; exact HZ8.out⟩
                case measure => simp [intOf]; omega
              · go_wp2_with fail
                go_roundw
                case rel => exact ⟨k + 1, k2 + 9, v8, by omega, by go_num, HKN.out, by go_num, congrArg Value.bool (by rw [HES.out, HOK2.out, ← Bool.and_assoc, HOK.out, Bool.true_and]; exact decide_eq_decide.2 (by omega)), by rw [HES.out]; exact HZ8.out⟩
                case measure => simp [intOf]; omega
          · obtain rfl : k = s := by omega
            have g1 : ¬ (k : Int) < x.s := by have := HS.out; omega
            have HKK := Lib.hid hkk
            clear hZ hkk
            obtain ⟨ss, hss⟩ : ∃ ss, ss = segsAt acc k := ⟨_, rfl⟩
            rw [← hss] at HZ
            have HSS := Lib.hid hss
            clear hss
            obtain ⟨t0, t1, t2, t3, t4, t5⟩ := HZ.out.dr.sh.cells6
            go_wp2_with fail
            clear t0 t1 t2 t3 t4 t5
            go_loopw [14, 15, 16, 128] (fun o kk _ i w' => ∃ (j k2 : Nat) (v4 : Value), j ≤ l ∧ i = .int .i64 (j : Nat) ∧ k2 = 12 + 9 * k + 4 * j ∧ kk = .int .i64 k2 ∧ o = .bool (ok && (mapsAt acc k j).all (fun p => decide ((p : Int) - 1 < q))) ∧ Dz w w' G X x A' c' n acc sq ((sg : Int) - 1) ix v3 ss v4 (mapsAt acc k j)) (fun _ _ _ i _ => l - (intOf i).toNat)
            case atStart => exact ⟨0, k2, _, by omega, rfl, by have := HKK.out; omega, rfl, by simp [mapsAt], HZ.out⟩
            case round =>
              clear HZ HKK
              rename World => w8
              obtain ⟨j, k3, v4, hj2, rfl, hkk, rfl, rfl, hZ⟩ := hrel
              have HZ := Lib.hid hZ
              obtain ⟨ok3, hok3⟩ : ∃ ok3, ok3 = (ok && (mapsAt acc k j).all (fun p => decide ((p : Int) - 1 < q))) := ⟨_, rfl⟩
              rw [← hok3]
              have HOK3 := Lib.hid hok3.symm
              clear hok3
              by_cases hlt2 : j < l
              · have g2 : (j : Int) < x.l := by have := HL.out; omega
                have hk3b : k3 + 4 ≤ n := by have := HTA.out; omega
                have hn4 := hZ.r4
                rw [mapsAt_len] at hn4
                obtain ⟨A4, c4, rfl, -, -, -⟩ := own_formc hn4
                have HRO := Lib.hid hn4
                have hes := mapsAt_snoc acc k j
                unfold mapAt at hes
                rw [← hkk] at hes
                have b1 := nf_lt HAO.out k3 (n := 4) (by decide)
                obtain ⟨a, ha⟩ : ∃ a, a = nf acc k3 4 := ⟨_, rfl⟩
                rw [← ha] at hes b1
                have hat1 : Calls Try.prog 42 #[.int .i64 (k3 : Int), .int .i64 4, .pointer (some ⟨G, 0, none⟩)] w8 fun e w' => e = .returned (.int .u64 a) ∧ w' = w8 := by
                  rw [ha]
                  exact HAT.out w8 k3 4 _ _ rfl rfl hZ.box hZ.rd (by omega) (by omega)
                have HAT1 := Lib.hid hat1
                have HES := Lib.hid hes
                have f1 : IntKind.i64.wrap (a : Int) = a := IntWalk.i64_in _ (by omega)
                have f2 : IntKind.i64.wrap ((a : Int) - 1) = (a : Int) - 1 := IntWalk.i64_in _ (by omega)
                have f3 : IntKind.i64.wrap ((k3 : Int) + 4) = (k3 : Int) + 4 := IntWalk.i64_in _ (by omega)
                have hok2 : ∀ cc : List Nat, (cc ++ [a]).all (fun p => decide ((p : Int) - 1 < q)) = (cc.all (fun p => decide ((p : Int) - 1 < q)) && decide ((a : Int) - 1 < q)) := fun cc => by rw [List.all_append]; simp
                have HOK2 := Lib.hid hok2
                have hkn : k3 + 4 = 12 + 9 * k + 4 * (j + 1) := by omega
                have HKN := Lib.hid hkn
                have q7 := hZ.im.cells5.2.2.2.2
                have hXw : X + 1 ≤ w8.heap.size := hZ.im.lt
                have hms := HMB.out
                have hms2 : IntKind.i64.wrap (x.m - 2) = (sl1 : Int) := by rw [hms]; exact IntWalk.i64_in _ (by omega)
                clear ha hat1 hes hZ hn4 hok2 hkk hkn
                rcases ok3 with _ | _
                · go_wp2_with (first
                    | (go_at_call 42; (with_reducible refine HAT1.out.mono ?_); rintro e w3 ⟨rfl, hw3⟩; subst w3)
                    | (at_builtin; refine wpList_append_any _ rfl _ _ 26 rfl (X + 1) 3 l0 _ 1 8 Try.underlying26 hl0 x0 x1 x2 rfl (by decide) _ j (mps (mapsAt acc k j)) rfl (HRO.out.alloc _) (some ⟨w8.heap.size, 0, none⟩) 1 1 [.int .i64 ((a : Int) - 1)] rfl rfl (Rd.one _ _ _ rfl) (by intro u hu; simp at hu; subst hu; rfl) (by unfold maxLen; omega) (by omega) (by simp; omega) ?_; intro v8 w9 hown8 hg8 hat8; obtain ⟨A9, c9, rfl, -, -, -⟩ := own_formc hown8; obtain ⟨p8, f8⟩ := HZ.out.open4 ((Below.refl _ _).alloc (Nat.le_refl _) _) hg8; have hp := HZ.out.push4 ((Below.refl _ _).alloc (Nat.le_refl _) _) hg8 a (by rw [mapsAt_len]; exact hown8); have HP := Lib.hid hp; obtain ⟨s0, s1, s2, s3, s4, s5⟩ := hp.dr.sh.cells6; clear hown8 hg8 hat8 hp))
                  go_roundw
                  case rel => exact ⟨j + 1, k3 + 4, _, by omega, by go_num, HKN.out, by go_num, congrArg Value.bool (by rw [HES.out, HOK2.out, ← Bool.and_assoc, HOK3.out]; rfl), by rw [HES.out]; exact HP.out⟩
                  case measure => simp [intOf]; omega
                · go_wp2_with (first
                    | (go_at_call 42; (with_reducible refine HAT1.out.mono ?_); rintro e w3 ⟨rfl, hw3⟩; subst w3)
                    | (at_builtin; refine wpList_append_any _ rfl _ _ 26 rfl (X + 1) 3 l0 _ 1 8 Try.underlying26 hl0 x0 x1 x2 rfl (by decide) _ j (mps (mapsAt acc k j)) rfl (HRO.out.alloc _) (some ⟨w8.heap.size, 0, none⟩) 1 1 [.int .i64 ((a : Int) - 1)] rfl rfl (Rd.one _ _ _ rfl) (by intro u hu; simp at hu; subst hu; rfl) (by unfold maxLen; omega) (by omega) (by simp; omega) ?_; intro v8 w9 hown8 hg8 hat8; obtain ⟨A9, c9, rfl, -, -, -⟩ := own_formc hown8; obtain ⟨p8, f8⟩ := HZ.out.open4 ((Below.refl _ _).alloc (Nat.le_refl _) _) hg8; have hp := HZ.out.push4 ((Below.refl _ _).alloc (Nat.le_refl _) _) hg8 a (by rw [mapsAt_len]; exact hown8); have HP := Lib.hid hp; obtain ⟨s0, s1, s2, s3, s4, s5⟩ := hp.dr.sh.cells6; clear hown8 hg8 hat8 hp))
                  go_roundw
                  case rel => exact ⟨j + 1, k3 + 4, _, by omega, by go_num, HKN.out, by go_num, congrArg Value.bool (by rw [HES.out, HOK2.out, ← Bool.and_assoc, HOK3.out, Bool.true_and]), by rw [HES.out]; exact HP.out⟩
                  case measure => simp [intOf]; omega
              · obtain rfl : j = l := by omega
                have g2 : ¬ (j : Int) < x.l := by have := HL.out; omega
                have hk3n : k3 ≤ n := by have := HTA.out; omega
                obtain ⟨ms, hms⟩ : ∃ ms, ms = mapsAt acc k j := ⟨_, rfl⟩
                rw [← hms] at HZ
                have HMS := Lib.hid hms
                obtain ⟨rs, hrs⟩ : ∃ rs, rs = acc.drop k3 := ⟨_, rfl⟩
                have hrl : rs.length = n - k3 := by rw [hrs, List.length_drop, HNL.out]
                obtain ⟨A5, hA5⟩ : ∃ A5, A5 = (if c' = k3 then A' else A'.map (·.add (k3 * 1))) := ⟨_, rfl⟩
                have hcut := fun W => cut_hi_ 47 1 Try.underlying47 (fun _ => by kernel_rfl) A' n c' k3 (k3 : Int) rfl hk3n W
                rw [← hA5] at hcut
                have hr5 : Rd w8 A5 (byv rs) := by
                  have h9 := hZ.rd.cutg (size := 1) (c := c') (n := k3) (len := n) (by rw [byv_len, HNL.out, Nat.mul_one]) hcap
                  rw [← hA5, Nat.mul_one, ← byv_drop, ← hrs] at h9
                  exact h9
                have HR5 := Lib.hid hr5
                have HRS := Lib.hid hrs
                have HRL := Lib.hid hrl
                have HKK := Lib.hid hkk
                obtain ⟨L, hL⟩ : ∃ L, L = n - k3 := ⟨_, rfl⟩
                rw [← hL] at hcut HRL
                have hLb : L ≤ 1000000 := by omega
                have bx8 := hZ.box.cells1
                clear hms hrs hrl hA5 hr5 hZ hL hkk
                go_wp2_with fail
                go_loopw [14, 18, 162] (fun o _ i w' => ∃ m : Nat, m ≤ L ∧ i = .int .i64 m ∧ o = .bool (ok3 && zer (rs.take m)) ∧ EqW w' w8) (fun _ _ i _ => L - (intOf i).toNat)
                case atStart => exact ⟨0, by omega, rfl, by simp [zer], rfl⟩
                case round =>
                  rename World => w7
                  obtain ⟨m, hm, rfl, rfl, hE⟩ := hrel
                  cases (show w7 = w8 from hE)
                  clear hE
                  by_cases hlt3 : m < L
                  · obtain ⟨y, hy⟩ : ∃ y, rs[m]? = some y := ⟨_, List.getElem?_eq_getElem (by rw [HRL.out]; exact hlt3)⟩
                    obtain ⟨ad5, rfl, a0⟩ := HR5.out m (.int .u8 y) (by unfold byv; rw [List.getElem?_map, hy]; rfl)
                    have g3 : (m : Int) < L := by omega
                    have g4 : (0 : Int) ≤ m := by omega
                    have hz := zer_snoc (rs.take m) y
                    rw [← take_snoc_pk hy] at hz
                    have HZR := Lib.hid hz
                    obtain ⟨ok, hok⟩ : ∃ ok, ok = (ok3 && zer (rs.take m)) := ⟨_, rfl⟩
                    rw [← hok]
                    have HOK4 := Lib.hid hok.symm
                    clear hz hy hok
                    rcases ok with _ | _
                    · go_wp2_with fail
                      go_roundw
                      case rel => exact ⟨m + 1, by omega, by go_num, congrArg Value.bool (by rw [HZR.out, ← Bool.and_assoc, HOK4.out]; rfl), rfl⟩
                      case measure => simp [intOf]; omega
                    · go_wp2_with fail
                      go_roundw
                      case rel => exact ⟨m + 1, by omega, by go_num, congrArg Value.bool (by rw [HZR.out, ← Bool.and_assoc, HOK4.out]; rfl), rfl⟩
                      case measure => simp [intOf]; omega
                  · obtain rfl : m = L := by omega
                    have hpic : picB k t q acc j = (ok3 && zer rs) := by
                      have hix2 : decide ((ix : Int) < (t : Int)) = decide (ix < t) := decide_eq_decide.2 (by omega)
                      rw [HRS.out, ← HOK3.out, ← HOK.out, ← HAC.out, hix2, HSG.out, HIX.out, HKK.out]
                      rfl
                    rw [show rs.take m = rs from List.take_of_length_le (by rw [HRL.out]; exact Nat.le_refl _)]
                    have hdc := HDC1.out
                    rw [hpic] at hdc
                    obtain ⟨ok5, hok5⟩ : ∃ ok5, ok5 = (ok3 && zer rs) := ⟨_, rfl⟩
                    rw [← hok5] at hdc ⊢
                    have HDC2 := Lib.hid hdc
                    have hpc : picAt acc k j = ⟨sq, sg, ix, ss, ms⟩ := by rw [HSQ.out, HSG.out, HIX.out, HSS.out, HMS.out]; rfl
                    have HPC := Lib.hid hpc
                    clear hdc hpic hok5 hpc
                    obtain ⟨r0, r1, r2, r3, r4⟩ := HZ.out.dr.res.cells5
                    have f0 := HZ.out.dr.res.frozen 0
                    have f1 := HZ.out.dr.res.frozen 1
                    have f2 := HZ.out.dr.res.frozen 2
                    have f3 := HZ.out.dr.res.frozen 3
                    have f4 := HZ.out.dr.res.frozen 4
                    rcases ok5 with _ | _
                    · obtain ⟨n0, n1, n2, n3, n4⟩ := HZ.out.dr.non.cells5
                      have hdc : DC = 4 := HDC2.out
                      have hdp : DP = zeroPic := by rw [HDP1.out, hdc]; rfl
                      have HDC3 := Lib.hid hdc
                      have HDP3 := Lib.hid hdp
                      clear hdc hdp
                      go_wp2_with fail
                      exact im_endR _ _ HZ.out.dr.zero.1 rfl rfl ⟨by rw [HDC3.out, HDP3.out]; exact imRes_zero _ _ 4, HZ.out.dr.zero.2⟩
                    · have hdc : DC = 0 := HDC2.out
                      have hdp : DP = ⟨sq, sg, ix, ss, ms⟩ := by rw [HDP1.out, hdc, ← HPC.out]; rfl
                      have HDC3 := Lib.hid hdc
                      have HDP3 := Lib.hid hdp
                      obtain ⟨A6, c6, rfl, -, -, hb6⟩ := own_formc HZ.out.r3
                      obtain ⟨A7, c7, rfl, -, -, hb7⟩ := own_formc HZ.out.r4
                      have HB6 := Lib.hid hb6
                      have HB7 := Lib.hid hb7
                      obtain ⟨m0, m1, m2, m3, m4⟩ := HZ.out.im.cells5
                      clear hdc hdp hb6 hb7
                      go_wp2_with fail
                      obtain ⟨d1, d2, d3, d4⟩ := HZ.out.done
                      refine im_endR _ _ d1 rfl rfl ⟨?_, d4⟩
                      rw [HDC3.out, HDP3.out]
                      exact ⟨A6, c6, A7, c7, rfl, Rd.of_own d2, Rd.of_own d3, fun ad e => by have := HB6.out ad e; have := HZ.out.far; omega, fun ad e => by have := HB7.out ad e; have := HZ.out.far; omega⟩
end Go.Proofs.Ytcpngnnnggpfpaa
