/- The walk of note.Decode. No further condition. -/
import Derived.Test.YtbokddacobohnaaNt3
namespace Go.Proofs.Ytbokddacobohnaa
open Go.RowKit
attribute [local go_sem ↓] Go.wp_at_zero Go.wp_at_succ

theorem Re.fr_ {w w' : World} {g h : Nat} {xs : List Int} {bad : Bool} {S : Nat → Prop} (k : Re w g h xs bad) (f : Fr S w w') (hg : ¬ S g) (hh : ¬ S h) : Re w' g h xs bad := by
  obtain ⟨o, c, k1, k2, k3, k4⟩ := k.form
  exact ⟨o, c, k1.fr f hg, k2.fr f (fun ad e => by injection e with e; subst e; exact hh), k3, k4⟩
theorem Rd.cutg {w : World} {A : Option Addr} {xs : List Value} {size c n len : Nat} (k : Rd w A xs) (hl : xs.length = len * size) (hc : len ≤ c) : Rd w (if c = n then A else A.map (·.add (n * size))) (xs.drop (n * size)) := by
  by_cases hcn : c = n
  · have : len ≤ n := by omega
    have h2 := Nat.mul_le_mul_right size this
    rw [List.drop_eq_nil_of_le (by omega)]
    exact Rd.nil _ _
  · rw [if_neg hcn]
    intro j u hu
    rw [List.getElem?_drop] at hu
    obtain ⟨ad, e, hcl⟩ := k _ u hu
    subst e
    exact ⟨ad.add (n * size), rfl, by rw [add_of_add]; exact hcl⟩
/-- Behind a call: a note, and an error's number. -/
def NtRes (w' : World) (e : Ending) (seq : Nat) (next : Int) (es : List En) (code : Nat) : Prop :=
  ∃ B c, e = .returned (.tuple #[.agg #[.int .u64 seq, .int .i64 next, .slice B es.length c], .int .i64 code]) ∧ Rd w' B (ens es)
/-- While a note is read: the result's block, the reader. -/
structure Da (w0 w : World) (R g h : Nat) (zs : List Int) : Prop where
  res : Blk w R 28 #[.int .u64 0, .int .i64 0, .slice none 0 0]
  re : Re w g h zs false
  bel : Below w0.heap.size w0 w
  far : w0.heap.size ≤ R ∧ w0.heap.size ≤ g ∧ h < w.heap.size
theorem Re.blk {w : World} {g h : Nat} {zs : List Int} {bad : Bool} (k : Re w g h zs bad) : ∃ cs, Blk w g 66 cs := by
  obtain ⟨o, c, k1, -, -, -⟩ := k.form
  exact ⟨_, k1⟩
theorem Re.lt {w : World} {g h : Nat} {zs : List Int} {bad : Bool} (k : Re w g h zs bad) (hz : 0 < zs.length) : h < w.heap.size := by
  obtain ⟨o, c, -, k2, -, -⟩ := k.form
  obtain ⟨ad, e, hc⟩ := k2 0 (.int .u8 zs[0]) (by simp [byv])
  injection e with e
  subst e
  have := World.block_lt_of_cell? w _ hc
  rw [block_of_add] at this
  exact this
section
variable {w0 w w' W : World} {R X g h B : Nat} {seq next : Int} {v v2 : Value} {xs : List En} {zs zs' ys : List Int}
theorem Da.later (k : Da w0 w R g h zs) (hb : Below w.heap.size w w') : Da w0 w' R g h zs := ⟨k.res.later hb, k.re.later hb, k.bel.trans (hb.mono k.bel.size), k.far.1, k.far.2.1, Nat.lt_of_lt_of_le k.far.2.2 hb.size⟩
theorem Da.took (k : Da w0 w R g h zs) (hr : Re w' g h zs' false) (hf : Fr (· = g) w w') : Da w0 w' R g h zs' := by
  obtain ⟨cs, hb⟩ := k.re.blk
  exact ⟨k.res.fr hf (Blk.ne_ k.res hb (by decide)), hr, k.bel.trans (hf.toBelow k.bel.size fun b hb e => by have := k.far.2.1; omega), k.far.1, k.far.2.1, Nat.lt_of_lt_of_le k.far.2.2 hf.size⟩
theorem takeA {i : Nat} (k : Da w0 w R g h (ys.drop i)) (n : Nat) (z : Int) (hz : z = n) (hn : i + n ≤ ys.length) (hy : ys.length ≤ 1000000) (ho : Oct ys) :
    Calls Try.prog 23 #[.pointer (some ⟨g, 0, none⟩), .int .i64 z] w fun e w' => e = .returned (.int .u64 (nf ys i n)) ∧ Da w0 w' R g h (ys.drop (i + n)) := by
  subst hz
  refine (take_ok g h (ys.drop i) n w k.re (by rw [List.length_drop]; omega) (by rw [List.length_drop]; omega) (ho.drop i)).mono ?_
  rintro e w' ⟨rfl, h1, h2⟩
  rw [nf_cast ho i n]
  rw [List.drop_drop] at h1
  exact ⟨rfl, k.took h1 h2⟩
/-- And the note that is made, with its row. -/
structure Db (w0 w : World) (B R X g h : Nat) (seq next : Int) (v : Value) (xs : List En) (zs : List Int) : Prop where
  da : Da w0 w R g h zs
  nt : Blk w X 28 #[.int .u64 seq, .int .i64 next, v]
  row : w.ownsRow B 48 2 v xs.length (ens xs)
  far : R < X ∧ h < X ∧ X < B
theorem Db.later (k : Db w0 w B R X g h seq next v xs zs) (hb : Below w.heap.size w w') : Db w0 w' B R X g h seq next v xs zs := ⟨k.da.later hb, k.nt.later hb, ownsRow_later k.row hb, k.far⟩
theorem Db.took (k : Db w0 w B R X g h seq next v xs zs) (hr : Re w' g h zs' false) (hf : Fr (· = g) w w') : Db w0 w' B R X g h seq next v xs zs' := by
  obtain ⟨cs, hb⟩ := k.da.re.blk
  exact ⟨k.da.took hr hf, k.nt.fr hf (Blk.ne_ k.nt hb (by decide)), ownsRow_fr k.row hf fun b hv e => own_blk_ne k.row hb (by decide) (by rw [hv, e]), k.far⟩
theorem takeB {i : Nat} (k : Db w0 w B R X g h seq next v xs (ys.drop i)) (n : Nat) (z : Int) (hz : z = n) (hn : i + n ≤ ys.length) (hy : ys.length ≤ 1000000) (ho : Oct ys) :
    Calls Try.prog 23 #[.pointer (some ⟨g, 0, none⟩), .int .i64 z] w fun e w' => e = .returned (.int .u64 (nf ys i n)) ∧ Db w0 w' B R X g h seq next v xs (ys.drop (i + n)) := by
  subst hz
  refine (take_ok g h (ys.drop i) n w k.da.re (by rw [List.length_drop]; omega) (by rw [List.length_drop]; omega) (ho.drop i)).mono ?_
  rintro e w' ⟨rfl, h1, h2⟩
  rw [nf_cast ho i n]
  rw [List.drop_drop] at h1
  exact ⟨rfl, k.took h1 h2⟩
theorem Db.open_ (k : Db w0 w B R X g h seq next v xs zs) (hb : Below w.heap.size w W) (hg : W.grownBy w' v.ownBlock) : w'.cell? ⟨X, 2, none⟩ = some v ∧ w'.frozen? ⟨X, 2, none⟩ = false := by
  have k' := k.later hb
  have b2 := k'.nt.grown hg (fun e => own_blk_ne k'.row k'.nt (by decide) e.symm)
  exact ⟨b2.cells3.2.2, b2.frozen 2⟩
theorem Db.push (k : Db w0 w B R X g h seq next v xs zs) (hb : Below w.heap.size w W) (hg : W.grownBy w' v.ownBlock) (e : En) (ho : w'.ownsRow B 48 2 v2 (xs.length + 1) (ens xs ++ env e)) :
    Db w0 (w'.setCell ⟨X, 2, none⟩ v2) B R X g h seq next v2 (xs ++ [e]) zs := by
  have k' := k.later hb
  have hbs := hb.size
  obtain ⟨f0, f1, fh⟩ := k.da.far
  obtain ⟨g0, g1, g2⟩ := k.far
  have n2 : v.ownBlock ≠ some X := own_blk_ne k'.row k'.nt (by decide)
  have b2 := k'.nt.grown hg (fun e => n2 e.symm)
  have f2 : Fr (· = X) w' (w'.setCell ⟨X, 2, none⟩ v2) := (Fr.refl (· = X) w').setCell (p := ⟨X, 2, none⟩) (.inl rfl) v2
  have hv : ∀ b, v.ownBlock = some b → B ≤ b := fun b hb => (k'.row.lt b hb).1
  have fa : Fr (fun b => v.ownBlock = some b ∨ b = X) W (w'.setCell ⟨X, 2, none⟩ v2) := ((Fr.refl _ W).grown hg fun b hb => .inl (.inl hb)).trans (f2.mono fun b _ e => .inr e) fun _ _ h => h
  obtain ⟨cs, hrb⟩ := k'.da.re.blk
  rw [← ens_snoc] at ho
  have b1 : Blk (w'.setCell ⟨X, 2, none⟩ v2) R 28 #[.int .u64 0, .int .i64 0, .slice none 0 0] := k'.da.res.fr fa (by
    rintro (e | e)
    · have := hv _ e; omega
    · omega)
  refine ⟨⟨b1, k'.da.re.fr_ fa ?_ ?_, ?_, f0, f1, Nat.lt_of_lt_of_le k'.da.far.2.2 fa.size⟩, b2.set_ 2 v2, ?_, k.far⟩
  · rintro (e | e)
    · exact own_blk_ne k'.row hrb (by decide) e
    · exact Blk.ne_ hrb k'.nt (by decide) e
  · rintro (e | e)
    · have := hv _ e; omega
    · omega
  · exact k'.da.bel.trans (fa.toBelow k'.da.bel.size fun b hb => by
      rintro (e | e)
      · have := hv _ e; omega
      · omega)
  · rw [List.length_append]
    exact ownsRow_fr ho f2 fun b hb e => own_blk_ne ho b2 (by decide) (by rw [hb, e])
theorem Db.done (k : Db w0 w B R X g h seq next v xs zs) :
    Blk (((w.setCell ⟨R, 0, none⟩ (.int .u64 seq)).setCell ⟨R, 1, none⟩ (.int .i64 next)).setCell ⟨R, 2, none⟩ v) R 28 #[.int .u64 seq, .int .i64 next, v] ∧
    (((w.setCell ⟨R, 0, none⟩ (.int .u64 seq)).setCell ⟨R, 1, none⟩ (.int .i64 next)).setCell ⟨R, 2, none⟩ v).ownsRow B 48 2 v xs.length (ens xs) ∧
    Below w0.heap.size w0 (((w.setCell ⟨R, 0, none⟩ (.int .u64 seq)).setCell ⟨R, 1, none⟩ (.int .i64 next)).setCell ⟨R, 2, none⟩ v) := by
  have hfr : Fr (fun b => b = R) w (((w.setCell ⟨R, 0, none⟩ (.int .u64 seq)).setCell ⟨R, 1, none⟩ (.int .i64 next)).setCell ⟨R, 2, none⟩ v) :=
    Fr.setCell (Fr.setCell (Fr.setCell (Fr.refl (fun b => b = R) w) (p := ⟨R, 0, none⟩) (.inl rfl) _) (p := ⟨R, 1, none⟩) (.inl rfl) _) (p := ⟨R, 2, none⟩) (.inl rfl) _
  refine ⟨?_, ownsRow_fr k.row hfr fun b hb e => own_blk_ne k.row k.da.res (by decide) (by rw [hb, e]), k.da.bel.trans (hfr.toBelow k.da.bel.size fun b hb e => by have := k.da.far.1; omega)⟩
  have := ((k.da.res.set_ 0 (.int .u64 seq)).set_ 1 (.int .i64 next)).set_ 2 v
  rw [set3] at this
  exact this
/-- The zero note, laid once more. -/
theorem zero_done (hres : Blk w R 28 #[.int .u64 0, .int .i64 0, .slice none 0 0]) (hbel : Below w0.heap.size w0 w) (hR : w0.heap.size ≤ R) :
    Blk (((w.setCell ⟨R, 0, none⟩ (.int .u64 0)).setCell ⟨R, 1, none⟩ (.int .i64 0)).setCell ⟨R, 2, none⟩ (.slice none 0 0)) R 28 #[.int .u64 0, .int .i64 0, .slice none 0 0] ∧
    Below w0.heap.size w0 (((w.setCell ⟨R, 0, none⟩ (.int .u64 0)).setCell ⟨R, 1, none⟩ (.int .i64 0)).setCell ⟨R, 2, none⟩ (.slice none 0 0)) := by
  have hfr : Fr (fun b => b = R) w (((w.setCell ⟨R, 0, none⟩ (.int .u64 0)).setCell ⟨R, 1, none⟩ (.int .i64 0)).setCell ⟨R, 2, none⟩ (.slice none 0 0)) :=
    Fr.setCell (Fr.setCell (Fr.setCell (Fr.refl (fun b => b = R) w) (p := ⟨R, 0, none⟩) (.inl rfl) _) (p := ⟨R, 1, none⟩) (.inl rfl) _) (p := ⟨R, 2, none⟩) (.inl rfl) _
  refine ⟨?_, hbel.trans (hfr.toBelow hbel.size fun b hb e => by omega)⟩
  have := ((hres.set_ 0 (.int .u64 0)).set_ 1 (.int .i64 0)).set_ 2 (.slice none 0 0)
  rw [set3] at this
  exact this
end
theorem ntRes_zero (w : World) (code : Nat) : NtRes w (.returned (.tuple #[.agg #[.int .u64 0, .int .i64 0, .slice none 0 0], .int .i64 code])) 0 0 [] code := ⟨none, 0, rfl, Rd.nil _ _⟩
theorem note_end {Q : Ending → World → Prop} (t : Array Value) (W : World) {R : Nat} {a b d : Value} (hb : Blk W R 28 #[a, b, d]) {code : Int} (h4 : t.getD 4 undef = .pointer (some ⟨R, 0, none⟩)) (h5 : t.getD 5 undef = .int .i64 code)
    (hQ : Q (.returned (.tuple #[.agg #[a, b, d], .int .i64 code])) W) : bodyPost Try.prog Try.f12 Q Exit.ret ⟨t, []⟩ W :=
  bodyPost_ret (results_cell2_row (fn := Try.f12) (p := 4) (u := 5) (ty := 28) (by kernel_rfl) _ h4 hb Try.underlying28 rfl (by kernel_rfl)) rfl (by rw [h5]; exact hQ)
set_option maxRecDepth 100000 in
set_option maxHeartbeats 3200000 in
theorem decode_size (A : Option Addr) (n c : Nat) (slots : Int) (w : World) (hn : n ≤ 100000) (hs : slots < 0 ∨ (n : Int) < 15 + 5 * slots) :
    Calls Try.prog 12 #[.slice A n c, .int .i64 slots] w fun e w' => NtRes w' e 0 0 [] 6 ∧ Below w.heap.size w w' := by
  have HN := Lib.hid (Blk.new w 28 #[.int .u64 0, .int .i64 0, .slice none 0 0])
  have HB := Lib.hid ((Below.refl w.heap.size w).alloc (Nat.le_refl _) (.cells #[.int .u64 0, .int .i64 0, .slice none 0 0] 28))
  go_enter Try.func12, Try.ntmps12
  by_cases h1 : slots < 0
  · have d1 : decide (slots < 0) = true := by simpa using h1
    clear hs
    go_wp2
    exact note_end _ _ HN.out rfl rfl ⟨ntRes_zero _ 6, HB.out⟩
  · have d1 : decide (slots < 0) = false := by simpa using h1
    by_cases h2 : (n : Int) < slots
    · have d2 : decide ((n : Int) < slots) = true := by simpa using h2
      clear hs
      go_wp2
      exact note_end _ _ HN.out rfl rfl ⟨ntRes_zero _ 6, HB.out⟩
    · have d2 : decide ((n : Int) < slots) = false := by simpa using h2
      have h3 : (n : Int) < 15 + 5 * slots := by omega
      have d3 : decide ((n : Int) < 15 + 5 * slots) = true := by simpa using h3
      clear hs
      go_wp2
      exact note_end _ _ HN.out rfl rfl ⟨ntRes_zero _ 6, HB.out⟩
theorem take_parts (xs : List Int) (s : Nat) (h : 15 + 5 * s ≤ xs.length) : ∃ ys ts, ys = xs.take (11 + 5 * s) ∧ ts.length = 4 ∧ ys.length = 11 + 5 * s ∧ xs.take (15 + 5 * s) = ys ++ ts ∧ (Oct xs → Oct ys ∧ Oct ts ∧ (num ts = cs ys ↔ isSeal xs s)) := by
  have e : xs.take (15 + 5 * s) = xs.take (11 + 5 * s) ++ (xs.drop (11 + 5 * s)).take 4 := by rw [show 15 + 5 * s = 11 + 5 * s + 4 by omega, List.take_add]
  have ht : ((xs.drop (11 + 5 * s)).take 4).length = 4 := by rw [List.length_take, List.length_drop]; omega
  refine ⟨xs.take (11 + 5 * s), (xs.drop (11 + 5 * s)).take 4, rfl, ht, by rw [List.length_take]; omega, e, fun ho => ⟨ho.take _, (ho.drop _).take _, ?_⟩⟩
  unfold isSeal
  rw [e]
  exact seal_iff (ho.take _) ((ho.drop _).take _) ht
set_option maxRecDepth 100000 in
set_option maxHeartbeats 3200000 in
theorem decode_sum (A : Option Addr) (c : Nat) (xs : List Int) (s : Nat) (w : World) (hr : Rd w A (byv xs)) (hx : xs.length ≤ 100000) (hc : xs.length ≤ c) (ho : Oct xs) (hs : 15 + 5 * s ≤ xs.length) (hsum : ¬ isSeal xs s) :
    Calls Try.prog 12 #[.slice A xs.length c, .int .i64 s] w fun e w' => NtRes w' e 0 0 [] 5 ∧ Below w.heap.size w w' := by
  obtain ⟨ys, ts, -, ht, hyl, hyt, hoo⟩ := take_parts xs s hs
  obtain ⟨hyo, hto, hiff⟩ := hoo ho
  have hN := Blk.new w 28 #[.int .u64 0, .int .i64 0, .slice none 0 0]
  have hB := (Below.refl w.heap.size w).alloc (Nat.le_refl _) (.cells #[.int .u64 0, .int .i64 0, .slice none 0 0] 28)
  obtain ⟨L, hL⟩ : ∃ L, L = 15 + 5 * s := ⟨_, rfl⟩
  have hLe : (15 : Int) + 5 * (s : Int) = L := by omega
  have hop := fun W (hW : Rd W A (byv (ys ++ ts))) => open_any A c ys ts W hW (by omega) hyo hto ht (by omega)
  rw [show ys.length + 4 = L by omega] at hop
  simp only [if_neg (fun e => hsum (hiff.1 e))] at hop
  have HOP := Lib.hid hop
  have HR : Hid (Rd w A (byv (ys ++ ts))) := Lib.hid (by rw [← hyt, byv_take]; exact hr.take _)
  have HN := Lib.hid hN
  have HB := Lib.hid hB
  have hcut := fun W => cut_lo_ 31 1 Try.underlying31 (fun _ => by kernel_rfl) A xs.length c L (L : Int) rfl (by omega) W
  have d1 : decide ((s : Int) < 0) = false := by simp
  have d2 : decide ((xs.length : Int) < (s : Int)) = false := by simp; omega
  have d3 : decide ((xs.length : Int) < (L : Int)) = false := by simp; omega
  have d2n : decide (xs.length < s) = false := by simp; omega
  have d3n : decide (xs.length < L) = false := by simp; omega
  have hs1 : (s : Int) ≤ 100000 := by omega
  have hL1 : (L : Int) ≤ 100000 := by omega
  clear hr ho hsum hyt hiff hop hN hB hyo hto ht hyl hL hs hoo
  go_enter Try.func12, Try.ntmps12
  go_wp2_with (go_at_call 21; (refine (HOP.out _ (HR.out.alloc _)).mono ?_); rintro e w1 ⟨⟨r, rfl, rfl⟩, hb1⟩; have HB1 := Lib.hid (HB.out.trans (hb1.mono HB.out.size)); have HN1 := Lib.hid (HN.out.later hb1); clear hb1; have f0 := HN1.out.frozen 0; have f1 := HN1.out.frozen 1; have f2 := HN1.out.frozen 2; obtain ⟨p0, p1, p2⟩ := HN1.out.cells3)
  exact note_end _ _ (zero_done HN1.out HB1.out (Nat.le_refl _)).1 rfl rfl ⟨ntRes_zero _ 5, (zero_done HN1.out HB1.out (Nat.le_refl _)).2⟩
theorem okE_eq (a b : Nat) : okE (a, b) = (decide (a < 4) && (decide (0 < a) || b == 0)) := rfl
def gSeq (xs : List Int) (s : Nat) : Nat := if good xs s = true then nf xs 1 8 else 0
def gNext (xs : List Int) (s : Nat) : Int := if good xs s = true then (nf xs 9 2 : Int) - 1 else 0
def gEnts (xs : List Int) (s : Nat) : List En := if good xs s = true then ents xs s else []
def gCode (xs : List Int) (s : Nat) : Nat := if good xs s = true then 0 else 4
set_option maxRecDepth 100000 in
set_option maxHeartbeats 12800000 in
theorem decode_rest (A : Option Addr) (c : Nat) (xs : List Int) (s : Nat) (w : World) (hr : Rd w A (byv xs)) (hx : xs.length ≤ 100000) (hc : xs.length ≤ c) (ho : Oct xs) (hs : 15 + 5 * s ≤ xs.length) (hsl : isSeal xs s) :
    Calls Try.prog 12 #[.slice A xs.length c, .int .i64 s] w fun e w' => NtRes w' e (gSeq xs s) (gNext xs s) (gEnts xs s) (gCode xs s) ∧ Below w.heap.size w w' := by
  obtain ⟨i0, hi0, hz0, hz1, hz2⟩ := info_parts (show (Try.prog.info? 48).map (fun i => (i.zero, i.size, i.bytes)) = some (some (.agg #[.int .i64 0, .int .i64 0]), 2, 16) by kernel_rfl)
  obtain ⟨ys, ts, hys, ht, hyl, hyt, hoo⟩ := take_parts xs s hs
  obtain ⟨hyo, hto, hiff⟩ := hoo ho
  have hN := Blk.new w 28 #[.int .u64 0, .int .i64 0, .slice none 0 0]
  have hB := (Below.refl w.heap.size w).alloc (Nat.le_refl _) (.cells #[.int .u64 0, .int .i64 0, .slice none 0 0] 28)
  obtain ⟨L, hL⟩ : ∃ L, L = 15 + 5 * s := ⟨_, rfl⟩
  have hLe : (15 : Int) + 5 * (s : Int) = L := by omega
  have hop := fun W (hW : Rd W A (byv (ys ++ ts))) => open_any A c ys ts W hW (by omega) hyo hto ht (by omega)
  rw [show ys.length + 4 = L by omega] at hop
  simp only [if_pos (hiff.2 hsl)] at hop
  have HOP := Lib.hid hop
  have HR : Hid (Rd w A (byv (ys ++ ts))) := Lib.hid (by rw [← hyt, byv_take]; exact hr.take _)
  have HRA := Lib.hid hr
  have HN := Lib.hid hN
  have HB := Lib.hid hB
  have HYO := Lib.hid hyo
  have HYS := Lib.hid hys
  have HYL := Lib.hid hyl
  have HLL := Lib.hid hL
  have HSX := Lib.hid hs
  have hcut := fun W => cut_lo_ 31 1 Try.underlying31 (fun _ => by kernel_rfl) A xs.length c L (L : Int) rfl (by omega) W
  have d1 : decide ((s : Int) < 0) = false := by simp
  have d2 : decide ((xs.length : Int) < (s : Int)) = false := by simp; omega
  have d3 : decide ((xs.length : Int) < (L : Int)) = false := by simp; omega
  have d2n : decide (xs.length < s) = false := by simp; omega
  have d3n : decide (xs.length < L) = false := by simp; omega
  have hs1 : (s : Int) ≤ 100000 := by omega
  have hL1 : (L : Int) ≤ 100000 := by omega
  have b2 := nf_lt hyo 9 (n := 2) (by decide)
  obtain ⟨sq, hsq⟩ : ∃ sq, sq = nf ys 1 8 := ⟨_, rfl⟩
  obtain ⟨nx, hnx⟩ : ∃ nx, nx = nf ys 9 2 := ⟨_, rfl⟩
  obtain ⟨m0, hm0⟩ : ∃ m0, m0 = nf ys 0 1 := ⟨_, rfl⟩
  rw [← hnx] at b2
  obtain ⟨m, hm⟩ : ∃ m, ((m0 : Int) == 78) = m := ⟨_, rfl⟩
  have hnb : (nx : Int) < 65536 := by omega
  have wn : IntKind.i64.wrap (nx : Int) = nx := IntWalk.i64_in _ (by omega)
  have ht1 := fun W g h => fun (k : Da w W w.heap.size g h (ys.drop 0)) => takeA k 1 1 rfl (by omega) (by omega) hyo
  have ht2 := fun W g h => fun (k : Da w W w.heap.size g h (ys.drop (0 + 1))) => takeA k 8 8 rfl (by omega) (by omega) hyo
  have ht3 := fun W g h => fun (k : Da w W w.heap.size g h (ys.drop (0 + 1 + 8))) => takeA k 2 2 rfl (by omega) (by omega) hyo
  rw [← hm0] at ht1
  rw [show (0 + 1 : Nat) = 1 from rfl, ← hsq] at ht2
  rw [show (0 + 1 + 8 : Nat) = 9 from rfl, ← hnx] at ht3
  have HT1 := Lib.hid ht1
  have HT2 := Lib.hid ht2
  have HT3 := Lib.hid ht3
  have HM := Lib.hid hm
  have HM0 := Lib.hid hm0
  have HSQ := Lib.hid hsq
  have HNX := Lib.hid hnx
  clear hr ho hsl hyt hiff hop hN hB hyo hto ht hyl hL hs hoo hys b2 hsq hnx hm0 ht1 ht2 ht3
  go_enter Try.func12, Try.ntmps12
  go_wp2_with (first
    | (go_at_call 21; (refine (HOP.out _ (HR.out.alloc _)).mono ?_); rintro e w1 ⟨⟨r, rfl, hown1⟩, hb1⟩; have HB1 := Lib.hid (HB.out.trans (hb1.mono HB.out.size)); have HN1 := Lib.hid (HN.out.later hb1); obtain ⟨A1, c1, rfl, hr1, -, -⟩ := own_formc hown1; have HR1 := Lib.hid hr1; clear hb1 hown1 hr1)
    | (go_at_call 22; (refine (read_ok A1 c1 ys _ HR1.out (by have := HYL.out; omega)).mono ?_); rintro e w2 ⟨g, h, rfl, hg, hh, hre, hb2⟩; have HA2 : Hid (Da w w2 w.heap.size g h (ys.drop 0)) := Lib.hid ⟨HN1.out.later hb2, by rw [List.drop_zero]; exact hre, HB1.out.trans (hb2.mono HB1.out.size), Nat.le_refl _, Nat.le_trans HB1.out.size hg, hre.lt (by have := HYL.out; omega)⟩; clear hg hh hre hb2)
    | (go_at_call 23; (with_reducible refine (HT1.out _ _ _ HA2.out).mono ?_); rintro e w3 ⟨rfl, hA3⟩; have HA3 := Lib.hid hA3; clear hA3)
    | (go_at_call 23; (with_reducible refine (HT2.out _ _ _ HA3.out).mono ?_); rintro e w4 ⟨rfl, hA4⟩; have HA4 := Lib.hid hA4; clear hA4)
    | (go_at_call 23; (with_reducible refine (HT3.out _ _ _ HA4.out).mono ?_); rintro e w5 ⟨rfl, hA5⟩; have HA5 := Lib.hid hA5; clear hA5))
  have hD5 : Db w (w5.alloc (.cells #[.int .u64 sq, .int .i64 ((nx : Int) - 1), .slice none 0 0] 28)) (w5.heap.size + 1) w.heap.size w5.heap.size g h sq ((nx : Int) - 1) (.slice none 0 0) (ents ys 0) (ys.drop (11 + 5 * 0)) :=
    ⟨HA5.out.later ((Below.refl _ _).alloc (Nat.le_refl _) _), Blk.new _ _ _, World.ownsRow_nil _ _ _ _, HA5.out.res.lt, HA5.out.far.2.2, by omega⟩
  obtain ⟨X, hX⟩ : ∃ X, X = w5.heap.size := ⟨_, rfl⟩
  rw [← hX] at hD5 ⊢
  have HD5 := Lib.hid hD5
  generalize w5.alloc (.cells #[.int .u64 sq, .int .i64 ((nx : Int) - 1), .slice none 0 0] 28) = W5 at HD5 ⊢
  clear hD5 hX HA5 HA4 HA3 HA2 HR1 HN1 HB1 HN HB HT1 HT2 HT3 HOP hcut d1 d2 d3 d2n d3n hm
  go_loopw [10, 12, 59] (fun ok _ i wr => ∃ (k c1 : Nat) (A1 : Option Addr), k ≤ s ∧ i = .int .i64 k ∧ ok = .bool (m && (ents ys k).all okE) ∧ Db w wr (X + 1) w.heap.size X g h sq ((nx : Int) - 1) (.slice A1 k c1) (ents ys k) (ys.drop (11 + 5 * k))) (fun _ _ i _ => s - (intOf i).toNat)
  case atStart => exact ⟨0, 0, none, by omega, rfl, by simp [ents], HD5.out⟩
  case round =>
    obtain ⟨k, c1', A1', hk, rfl, rfl, hD⟩ := hrel
    have HD := Lib.hid hD
    clear hD
    by_cases hlt : k < s
    · have hkl : ys.length = 11 + 5 * s := HYL.out
      have ht1 := fun W v es => fun (q : Db w W (X + 1) w.heap.size X g h sq ((nx : Int) - 1) v es (ys.drop (11 + 5 * k))) => takeB q 1 1 rfl (by omega) (by omega) HYO.out
      have ht2 := fun W v es => fun (q : Db w W (X + 1) w.heap.size X g h sq ((nx : Int) - 1) v es (ys.drop (11 + 5 * k + 1))) => takeB q 4 4 rfl (by omega) (by omega) HYO.out
      have b1 := nf_lt HYO.out (11 + 5 * k) (n := 1) (by decide)
      have b4 := nf_lt HYO.out (11 + 5 * k + 1) (n := 4) (by decide)
      obtain ⟨kd, hkd⟩ : ∃ kd, kd = nf ys (11 + 5 * k) 1 := ⟨_, rfl⟩
      obtain ⟨lb, hlb⟩ : ∃ lb, lb = nf ys (11 + 5 * k + 1) 4 := ⟨_, rfl⟩
      rw [← hkd] at ht1 b1
      rw [← hlb] at ht2 b4
      have hen : entAt ys k = (kd, lb) := by unfold entAt; rw [hkd, hlb, show 12 + 5 * k = 11 + 5 * k + 1 by omega]
      have hes : ents ys (k + 1) = ents ys k ++ [(kd, lb)] := by rw [ents_snoc, hen]
      have HES := Lib.hid hes
      have HT1 := Lib.hid ht1
      have HT2 := Lib.hid ht2
      have hel := ents_len ys k
      obtain ⟨es, hee⟩ : ∃ es, es = ents ys k := ⟨_, rfl⟩
      rw [← hee] at HD HES hel ⊢
      have HEL := Lib.hid hel
      have k1 : (kd : Int) < 256 := by omega
      have l1 : (lb : Int) < 4294967296 := by omega
      have wk : IntKind.i64.wrap (kd : Int) = kd := IntWalk.i64_in _ (by omega)
      have wl : IntKind.i64.wrap (lb : Int) = lb := IntWalk.i64_in _ (by omega)
      have g1 : (k : Int) < s := by omega
      obtain ⟨ac, hac⟩ : ∃ ac, (m && es.all okE) = ac := ⟨_, rfl⟩
      have HAC := Lib.hid hac
      rw [hac]
      clear ht1 ht2 hkd hlb hen hes hel hee hac hkl b1 b4
      have hfin : ∀ b, b = (ac && okE (kd, lb)) → b = (m && (es ++ [(kd, lb)]).all okE) := fun b hb => by rw [hb, ← HAC.out, List.all_append, Bool.and_assoc]; simp
      have HFIN := Lib.hid hfin
      clear hfin
      have hcase : (ac = false) ∨ (ac = true ∧ 3 < kd) ∨ (ac = true ∧ kd ≤ 3 ∧ kd ≠ 0) ∨ (ac = true ∧ kd = 0 ∧ lb ≠ 0) ∨ (ac = true ∧ kd = 0 ∧ lb = 0) := by
        rcases ac with _ | _
        · exact .inl rfl
        · by_cases h1 : 3 < kd
          · exact .inr (.inl ⟨rfl, h1⟩)
          · by_cases h2 : kd = 0
            · by_cases h3 : lb = 0
              · exact .inr (.inr (.inr (.inr ⟨rfl, h2, h3⟩)))
              · exact .inr (.inr (.inr (.inl ⟨rfl, h2, h3⟩)))
            · exact .inr (.inr (.inl ⟨rfl, by omega, h2⟩))
      obtain ⟨bv, hbv, hcase⟩ : ∃ bv, bv = (ac && okE (kd, lb)) ∧ ((ac = false ∧ bv = false) ∨ (ac = true ∧ 3 < kd ∧ bv = false) ∨ (ac = true ∧ kd ≤ 3 ∧ kd ≠ 0 ∧ bv = true) ∨ (ac = true ∧ kd = 0 ∧ lb ≠ 0 ∧ bv = false) ∨ (ac = true ∧ kd = 0 ∧ lb = 0 ∧ bv = true)) := by
        refine ⟨_, rfl, ?_⟩
        rcases hcase with rfl | ⟨rfl, h1⟩ | ⟨rfl, h1, h2⟩ | ⟨rfl, h1, h2⟩ | ⟨rfl, h1, h2⟩
        · exact .inl ⟨rfl, rfl⟩
        · exact .inr (.inl ⟨rfl, h1, by simp [okE]; omega⟩)
        · exact .inr (.inr (.inl ⟨rfl, h1, h2, by simp [okE]; omega⟩))
        · exact .inr (.inr (.inr (.inl ⟨rfl, h1, h2, by simp [okE]; omega⟩)))
        · exact .inr (.inr (.inr (.inr ⟨rfl, h1, h2, by simp [okE]; omega⟩)))
      have HBV := Lib.hid hbv
      clear hbv
      have hz : kd = 0 ∨ kd ≠ 0 := by omega
      rcases hcase with ⟨rfl, rfl⟩ | ⟨rfl, h1, rfl⟩ | ⟨rfl, h1, h2, rfl⟩ | ⟨rfl, h1, h2, rfl⟩ | ⟨rfl, h1, h2, rfl⟩
      · skip
        go_wp2_with (first
          | (go_at_call 23; (with_reducible refine (HT1.out _ _ _ HD.out).mono ?_); rintro e w6 ⟨rfl, hD6⟩; have HD6 := Lib.hid hD6; clear hD6)
          | (go_at_call 23; (with_reducible refine (HT2.out _ _ _ HD6.out).mono ?_); rintro e w7 ⟨rfl, hD7⟩; have HD7 := Lib.hid hD7; have q7 := (hD7.nt.alloc (.cells #[.int .i64 kd, .int .i64 lb] 48)).cells3.2.2; have hro := hD7.row; rw [HEL.out] at hro; have HRO := Lib.hid hro; have HX7 : Hid (X + 1 ≤ w7.heap.size) := Lib.hid hD7.nt.lt; clear hD7 hro)
          | (at_builtin; refine wpList_append_any _ rfl _ _ 26 rfl (X + 1) 48 i0 _ 2 16 Try.underlying26 hi0 hz0 hz1 hz2 rfl (by decide) _ k (ens es) rfl ((HRO.out.alloc _).alloc _) (some ⟨w7.heap.size + 1, 0, none⟩) 1 1 (env (kd, lb)) rfl rfl (Rd.blk_all (Blk.new_ _ _ _ (by simp))) (env_one _) (by unfold maxLen; omega) (by omega) (by have := HX7.out; simp; omega) ?_; intro v8 w8 hown8 hg8 hat8; obtain ⟨A8, c8, rfl, -, -⟩ := own_form hown8; obtain ⟨p8, f8⟩ := HD7.out.open_ (((Below.refl w7.heap.size w7).alloc (Nat.le_refl _) _).alloc (by simp) _) hg8; have HP := Lib.hid (HD7.out.push (((Below.refl w7.heap.size w7).alloc (Nat.le_refl _) _).alloc (by simp) _) hg8 (kd, lb) (by rw [HEL.out]; exact hown8)); clear hown8 hg8 hat8))
        go_roundw
        case rel => exact ⟨k + 1, c8, A8, by omega, by go_num, by rw [HES.out]; exact congrArg Value.bool (HFIN.out _ HBV.out), by rw [HES.out, show 11 + 5 * (k + 1) = 11 + 5 * k + 1 + 4 by omega]; exact HP.out⟩
        case measure => simp [intOf]; omega
      · have e1 : decide ((kd : Int) ≤ 3) = false := by simp; omega
        have e2 : decide (kd ≤ 3) = false := by simp; omega
        clear h1 hz
        go_wp2_with (first
          | (go_at_call 23; (with_reducible refine (HT1.out _ _ _ HD.out).mono ?_); rintro e w6 ⟨rfl, hD6⟩; have HD6 := Lib.hid hD6; clear hD6)
          | (go_at_call 23; (with_reducible refine (HT2.out _ _ _ HD6.out).mono ?_); rintro e w7 ⟨rfl, hD7⟩; have HD7 := Lib.hid hD7; have q7 := (hD7.nt.alloc (.cells #[.int .i64 kd, .int .i64 lb] 48)).cells3.2.2; have hro := hD7.row; rw [HEL.out] at hro; have HRO := Lib.hid hro; have HX7 : Hid (X + 1 ≤ w7.heap.size) := Lib.hid hD7.nt.lt; clear hD7 hro)
          | (at_builtin; refine wpList_append_any _ rfl _ _ 26 rfl (X + 1) 48 i0 _ 2 16 Try.underlying26 hi0 hz0 hz1 hz2 rfl (by decide) _ k (ens es) rfl ((HRO.out.alloc _).alloc _) (some ⟨w7.heap.size + 1, 0, none⟩) 1 1 (env (kd, lb)) rfl rfl (Rd.blk_all (Blk.new_ _ _ _ (by simp))) (env_one _) (by unfold maxLen; omega) (by omega) (by have := HX7.out; simp; omega) ?_; intro v8 w8 hown8 hg8 hat8; obtain ⟨A8, c8, rfl, -, -⟩ := own_form hown8; obtain ⟨p8, f8⟩ := HD7.out.open_ (((Below.refl w7.heap.size w7).alloc (Nat.le_refl _) _).alloc (by simp) _) hg8; have HP := Lib.hid (HD7.out.push (((Below.refl w7.heap.size w7).alloc (Nat.le_refl _) _).alloc (by simp) _) hg8 (kd, lb) (by rw [HEL.out]; exact hown8)); clear hown8 hg8 hat8))
        go_roundw
        case rel => exact ⟨k + 1, c8, A8, by omega, by go_num, by rw [HES.out]; exact congrArg Value.bool (HFIN.out _ HBV.out), by rw [HES.out, show 11 + 5 * (k + 1) = 11 + 5 * k + 1 + 4 by omega]; exact HP.out⟩
        case measure => simp [intOf]; omega
      · have e1 : decide ((kd : Int) ≤ 3) = true := by simp; omega
        have e2 : decide (kd ≤ 3) = true := by simp; omega
        have e3 : ((kd : Int) != 0) = true := by simp; omega
        clear h1 h2 hz
        go_wp2_with (first
          | (go_at_call 23; (with_reducible refine (HT1.out _ _ _ HD.out).mono ?_); rintro e w6 ⟨rfl, hD6⟩; have HD6 := Lib.hid hD6; clear hD6)
          | (go_at_call 23; (with_reducible refine (HT2.out _ _ _ HD6.out).mono ?_); rintro e w7 ⟨rfl, hD7⟩; have HD7 := Lib.hid hD7; have q7 := (hD7.nt.alloc (.cells #[.int .i64 kd, .int .i64 lb] 48)).cells3.2.2; have hro := hD7.row; rw [HEL.out] at hro; have HRO := Lib.hid hro; have HX7 : Hid (X + 1 ≤ w7.heap.size) := Lib.hid hD7.nt.lt; clear hD7 hro)
          | (at_builtin; refine wpList_append_any _ rfl _ _ 26 rfl (X + 1) 48 i0 _ 2 16 Try.underlying26 hi0 hz0 hz1 hz2 rfl (by decide) _ k (ens es) rfl ((HRO.out.alloc _).alloc _) (some ⟨w7.heap.size + 1, 0, none⟩) 1 1 (env (kd, lb)) rfl rfl (Rd.blk_all (Blk.new_ _ _ _ (by simp))) (env_one _) (by unfold maxLen; omega) (by omega) (by have := HX7.out; simp; omega) ?_; intro v8 w8 hown8 hg8 hat8; obtain ⟨A8, c8, rfl, -, -⟩ := own_form hown8; obtain ⟨p8, f8⟩ := HD7.out.open_ (((Below.refl w7.heap.size w7).alloc (Nat.le_refl _) _).alloc (by simp) _) hg8; have HP := Lib.hid (HD7.out.push (((Below.refl w7.heap.size w7).alloc (Nat.le_refl _) _).alloc (by simp) _) hg8 (kd, lb) (by rw [HEL.out]; exact hown8)); clear hown8 hg8 hat8))
        go_roundw
        case rel => exact ⟨k + 1, c8, A8, by omega, by go_num, by rw [HES.out]; exact congrArg Value.bool (HFIN.out _ HBV.out), by rw [HES.out, show 11 + 5 * (k + 1) = 11 + 5 * k + 1 + 4 by omega]; exact HP.out⟩
        case measure => simp [intOf]; omega
      · have e1 : decide ((kd : Int) ≤ 3) = true := by simp; omega
        have e2 : decide (kd ≤ 3) = true := by simp; omega
        have e3 : ((kd : Int) != 0) = false := by simp; omega
        have e4 : ((lb : Int) == 0) = false := by simp; omega
        clear h1 h2 hz
        go_wp2_with (first
          | (go_at_call 23; (with_reducible refine (HT1.out _ _ _ HD.out).mono ?_); rintro e w6 ⟨rfl, hD6⟩; have HD6 := Lib.hid hD6; clear hD6)
          | (go_at_call 23; (with_reducible refine (HT2.out _ _ _ HD6.out).mono ?_); rintro e w7 ⟨rfl, hD7⟩; have HD7 := Lib.hid hD7; have q7 := (hD7.nt.alloc (.cells #[.int .i64 kd, .int .i64 lb] 48)).cells3.2.2; have hro := hD7.row; rw [HEL.out] at hro; have HRO := Lib.hid hro; have HX7 : Hid (X + 1 ≤ w7.heap.size) := Lib.hid hD7.nt.lt; clear hD7 hro)
          | (at_builtin; refine wpList_append_any _ rfl _ _ 26 rfl (X + 1) 48 i0 _ 2 16 Try.underlying26 hi0 hz0 hz1 hz2 rfl (by decide) _ k (ens es) rfl ((HRO.out.alloc _).alloc _) (some ⟨w7.heap.size + 1, 0, none⟩) 1 1 (env (kd, lb)) rfl rfl (Rd.blk_all (Blk.new_ _ _ _ (by simp))) (env_one _) (by unfold maxLen; omega) (by omega) (by have := HX7.out; simp; omega) ?_; intro v8 w8 hown8 hg8 hat8; obtain ⟨A8, c8, rfl, -, -⟩ := own_form hown8; obtain ⟨p8, f8⟩ := HD7.out.open_ (((Below.refl w7.heap.size w7).alloc (Nat.le_refl _) _).alloc (by simp) _) hg8; have HP := Lib.hid (HD7.out.push (((Below.refl w7.heap.size w7).alloc (Nat.le_refl _) _).alloc (by simp) _) hg8 (kd, lb) (by rw [HEL.out]; exact hown8)); clear hown8 hg8 hat8))
        go_roundw
        case rel => exact ⟨k + 1, c8, A8, by omega, by go_num, by rw [HES.out]; exact congrArg Value.bool (HFIN.out _ HBV.out), by rw [HES.out, show 11 + 5 * (k + 1) = 11 + 5 * k + 1 + 4 by omega]; exact HP.out⟩
        case measure => simp [intOf]; omega
      · have e1 : decide ((kd : Int) ≤ 3) = true := by simp; omega
        have e2 : decide (kd ≤ 3) = true := by simp; omega
        have e3 : ((kd : Int) != 0) = false := by simp; omega
        have e4 : ((lb : Int) == 0) = true := by simp; omega
        clear h1 h2 hz
        go_wp2_with (first
          | (go_at_call 23; (with_reducible refine (HT1.out _ _ _ HD.out).mono ?_); rintro e w6 ⟨rfl, hD6⟩; have HD6 := Lib.hid hD6; clear hD6)
          | (go_at_call 23; (with_reducible refine (HT2.out _ _ _ HD6.out).mono ?_); rintro e w7 ⟨rfl, hD7⟩; have HD7 := Lib.hid hD7; have q7 := (hD7.nt.alloc (.cells #[.int .i64 kd, .int .i64 lb] 48)).cells3.2.2; have hro := hD7.row; rw [HEL.out] at hro; have HRO := Lib.hid hro; have HX7 : Hid (X + 1 ≤ w7.heap.size) := Lib.hid hD7.nt.lt; clear hD7 hro)
          | (at_builtin; refine wpList_append_any _ rfl _ _ 26 rfl (X + 1) 48 i0 _ 2 16 Try.underlying26 hi0 hz0 hz1 hz2 rfl (by decide) _ k (ens es) rfl ((HRO.out.alloc _).alloc _) (some ⟨w7.heap.size + 1, 0, none⟩) 1 1 (env (kd, lb)) rfl rfl (Rd.blk_all (Blk.new_ _ _ _ (by simp))) (env_one _) (by unfold maxLen; omega) (by omega) (by have := HX7.out; simp; omega) ?_; intro v8 w8 hown8 hg8 hat8; obtain ⟨A8, c8, rfl, -, -⟩ := own_form hown8; obtain ⟨p8, f8⟩ := HD7.out.open_ (((Below.refl w7.heap.size w7).alloc (Nat.le_refl _) _).alloc (by simp) _) hg8; have HP := Lib.hid (HD7.out.push (((Below.refl w7.heap.size w7).alloc (Nat.le_refl _) _).alloc (by simp) _) hg8 (kd, lb) (by rw [HEL.out]; exact hown8)); clear hown8 hg8 hat8))
        go_roundw
        case rel => exact ⟨k + 1, c8, A8, by omega, by go_num, by rw [HES.out]; exact congrArg Value.bool (HFIN.out _ HBV.out), by rw [HES.out, show 11 + 5 * (k + 1) = 11 + 5 * k + 1 + 4 by omega]; exact HP.out⟩
        case measure => simp [intOf]; omega
    · obtain rfl : k = s := by omega
      obtain ⟨rl, hrl⟩ : ∃ rl, rl = xs.drop L := ⟨_, rfl⟩
      have hrll : rl.length = xs.length - L := by rw [hrl, List.length_drop]
      have hee : ents ys k = ents xs k := by rw [HYS.out]; exact ents_take xs k (Nat.le_refl _)
      have hgood : good xs k = ((m && (ents ys k).all okE) && zeros rl) := by
        unfold good
        rw [hee, hrl, HLL.out, ← HM.out, HM0.out, HYS.out, nf_take xs (by omega)]
        congr 2
        generalize nf xs 0 1 = q
        by_cases hq : q = 78
        · simp [hq]
        · rw [beq_eq_false_iff_ne.2 hq]
          symm
          simp
          omega
      have hfs : gSeq xs k = (if good xs k = true then sq else 0) ∧ gNext xs k = (if good xs k = true then (nx : Int) - 1 else 0) ∧ gEnts xs k = (if good xs k = true then ents ys k else []) ∧ gCode xs k = (if good xs k = true then 0 else 4) := by
        unfold gSeq gNext gEnts gCode
        rw [HSQ.out, HNX.out, hee, HYS.out, nf_take xs (by omega), nf_take xs (by omega)]
        exact ⟨rfl, rfl, rfl, rfl⟩
      rw [hgood] at hfs
      have HFS := Lib.hid hfs
      obtain ⟨A2, hA2⟩ : ∃ A2, A2 = (if c = L then A else A.map (·.add (L * 1))) := ⟨_, rfl⟩
      have hlL : L ≤ xs.length := by have := HLL.out; have := HSX.out; omega
      have hcut := fun W => cut_hi_ 31 1 Try.underlying31 (fun _ => by kernel_rfl) A xs.length c L (L : Int) rfl hlL W
      rw [← hA2, ← hrll] at hcut
      have hR2 : Rd w A2 (byv rl) := by
        have := HRA.out.cutg (size := 1) (c := c) (n := L) (len := xs.length) (by simp [byv_len]) hc
        rw [← hA2, Nat.mul_one, ← byv_drop, ← hrl] at this
        exact this
      have HR2 := Lib.hid hR2
      obtain ⟨ac, hac⟩ : ∃ ac, ac = (m && (ents ys k).all okE) := ⟨_, rfl⟩
      rw [← hac] at HFS ⊢
      have hrb : (rl.length : Int) ≤ 100000 := by omega
      have hLn : decide (xs.length < L) = false := by simp; omega
      clear hrll hee hgood hfs hR2 hac hA2 hrl
      go_wp2
      go_loopw [10, 14, 95] (fun ok _ i wi => ∃ j : Nat, j ≤ rl.length ∧ i = .int .i64 j ∧ ok = .bool (ac && zeros (rl.take j)) ∧ Db w wi (X + 1) w.heap.size X g h sq ((nx : Int) - 1) (.slice A1' k c1') (ents ys k) (ys.drop (11 + 5 * k))) (fun _ _ i _ => rl.length - (intOf i).toNat)
      case atStart => exact ⟨0, by omega, rfl, by simp [zeros], HD.out⟩
      case round =>
        obtain ⟨j, hj, rfl, rfl, hD⟩ := hrel
        have HD := Lib.hid hD
        by_cases hjl : j < rl.length
        · obtain ⟨x, hx1⟩ : ∃ x, rl[j]? = some x := ⟨_, List.getElem?_eq_getElem hjl⟩
          obtain ⟨ad, rfl, hcx⟩ := (HR2.out.later hD.da.bel) j (.int .u8 x) (by simp [byv, hx1])
          have hz : zeros (rl.take (j + 1)) = (zeros (rl.take j) && (x == 0)) := by rw [take_snoc_pk hx1]; simp [zeros]
          have HZ := Lib.hid hz
          have g1 : (j : Int) < rl.length := by omega
          obtain ⟨a2, ha2⟩ : ∃ a2, a2 = (ac && zeros (rl.take j)) := ⟨_, rfl⟩
          rw [← ha2]
          have HA2 := Lib.hid ha2
          clear hx1 hz ha2 hD
          rcases a2 with _ | _
          all_goals
            go_wp2
            go_roundw
            case rel => exact ⟨j + 1, by omega, by go_num, by rw [HZ.out, ← Bool.and_assoc, ← HA2.out]; rfl, HD.out⟩
            case measure => simp [intOf]; omega
        · obtain rfl : j = rl.length := by omega
          rw [List.take_length]
          rcases hg : (ac && zeros rl) with _ | _
          all_goals
            rw [hg] at HFS
            obtain ⟨r0, r1, r2⟩ := hD.da.res.cells3
            have f0 := hD.da.res.frozen 0
            have f1 := hD.da.res.frozen 1
            have f2 := hD.da.res.frozen 2
            clear hg hD
          · go_wp2
            have hz := zero_done HD.out.da.res HD.out.da.bel (Nat.le_refl _)
            refine note_end _ _ hz.1 rfl rfl ⟨?_, hz.2⟩
            rw [HFS.out.1, HFS.out.2.1, HFS.out.2.2.1, HFS.out.2.2.2]
            exact ntRes_zero _ 4
          · obtain ⟨x0, x1, x2⟩ := HD.out.nt.cells3
            go_wp2
            have hz := HD.out.done
            refine note_end _ _ hz.1 rfl rfl ⟨?_, hz.2.2⟩
            rw [HFS.out.1, HFS.out.2.1, HFS.out.2.2.1, HFS.out.2.2.2]
            have hw := hz.2.1
            rw [ents_len] at hw
            refine ⟨A1', c1', ?_, Rd.of_own hw⟩
            simp only [if_true, ents_len]
            rfl
theorem decode_ok (A : Option Addr) (c : Nat) (xs : List Int) (slots : Int) (w : World) (hr : Rd w A (byv xs)) (hx : xs.length ≤ 100000) (hc : xs.length ≤ c) (ho : Oct xs) :
    Calls Try.prog 12 #[.slice A xs.length c, .int .i64 slots] w fun e w' => NtRes w' e (dSeq xs slots) (dNext xs slots) (dEnts xs slots) (dCode xs slots) ∧ Below w.heap.size w w' := by
  by_cases h : slots < 0 ∨ (xs.length : Int) < 15 + 5 * slots
  · have hc := dCode_size h
    unfold dSeq dNext dEnts
    rw [hc]
    exact decode_size A xs.length c slots w hx h
  · obtain ⟨s, rfl⟩ := Int.eq_ofNat_of_zero_le (show 0 ≤ slots by omega)
    have hs : 15 + 5 * s ≤ xs.length := by omega
    by_cases h2 : isSeal xs s
    · have hc2 := dCode_form hs h2
      unfold dSeq dNext dEnts
      rw [hc2]
      have := decode_rest A c xs s w hr hx hc ho hs h2
      unfold gSeq gNext gEnts gCode at this
      refine this.mono ?_
      intro e w' he
      rcases hg : good xs s with _ | _ <;> rw [hg] at he <;> exact he
    · have hc2 := dCode_sum hs h2
      unfold dSeq dNext dEnts
      rw [hc2]
      exact decode_sum A c xs s w hr hx hc ho hs h2
end Go.Proofs.Ytbokddacobohnaa
