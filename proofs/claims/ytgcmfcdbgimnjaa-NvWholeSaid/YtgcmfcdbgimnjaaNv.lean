/- The memory of records: the words, and the walks of New, Set, Len, Root, Tick. No further condition. -/
import Derived.Test.YtgcmfcdbgimnjaaRec
namespace Go.Proofs.Ytgcmfcdbgimnjaa
open Go.RowKit
attribute [local go_sem ↓] Go.wp_at_zero Go.wp_at_succ

/-- A root: the shape's six numbers; the generation, the last stripe that stays, the stale member. -/
structure Rt where
  m : Int
  b : Int
  s : Int
  t : Int
  n : Int
  l : Int
  gen : Int
  dur : Int
  stale : Int
def rta (r : Rt) : Array Value := #[.int .i64 r.m, .int .i64 r.b, .int .i64 r.s, .int .i64 r.t, .int .i64 r.n, .int .i64 r.l, .int .u64 r.gen, .int .u64 r.dur, .int .i64 r.stale]
def nva (h : Nat) (v : Value) (next : Int) (r : Rt) : Array Value := #[.pointer (some ⟨h, 0, none⟩), v, .int .u64 next, .int .i64 r.m, .int .i64 r.b, .int .i64 r.s, .int .i64 r.t, .int .i64 r.n, .int .i64 r.l, .int .u64 r.gen, .int .u64 r.dur, .int .i64 r.stale]
def rc0 : Rt := ⟨0, 0, 0, 0, 0, 0, 0, 0, -1⟩
/-- The bytes of all these records are rows of their own, from a block on. -/
def Dt (w : World) (B : Nat) (l : List Rc) : Prop := ∀ x ∈ l, w.ownsRow B 5 1 (.slice x.A x.raw.length x.c) x.raw.length (byv x.raw)
/-- The memory: its block g, its power's block h, its row. -/
structure NvS (w : World) (B g h : Nat) (used limit : Int) (v : Value) (l : List Rc) (next : Int) (r : Rt) : Prop where
  own : Blk w g 58 (nva h v next r)
  pw : Blk w h 60 #[.int .i64 used, .int .i64 limit]
  row : w.ownsRow B 45 4 v l.length (rcs l)
  data : Dt w B l
section
variable {w w' w2 : World} {B g h : Nat} {used limit next : Int} {v : Value} {l : List Rc} {r : Rt} {S : Nat → Prop}
theorem Dt.later (k : Dt w B l) (hb : Below w.heap.size w w') : Dt w' B l := fun x hx => ownsRow_later (k x hx) hb
theorem Dt.fr (k : Dt w B l) (f : Fr S w w') (hS : ∀ b, S b → ∃ t cs, Blk w b t cs ∧ 5 ≠ t) : Dt w' B l := fun x hx => ownsRow_fr (k x hx) f fun b hb hs => by
  obtain ⟨t, cs, h1, h2⟩ := hS b hs
  exact own_blk_ne (k x hx) h1 h2 hb
theorem Dt.sub {m : List Rc} (k : Dt w B l) (h : ∀ x ∈ m, x ∈ l) : Dt w B m := fun x hx => k x (h x hx)
theorem NvS.later (k : NvS w B g h used limit v l next r) (hb : Below w.heap.size w w') : NvS w' B g h used limit v l next r := ⟨k.own.later hb, k.pw.later hb, ownsRow_later k.row hb, k.data.later hb⟩
theorem NvS.ne (k : NvS w B g h used limit v l next r) : g ≠ h := k.own.ne_ k.pw (by decide)
theorem NvS.rowg (k : NvS w B g h used limit v l next r) : v.ownBlock ≠ some g := own_blk_ne k.row k.own (by decide)
theorem NvS.rowh (k : NvS w B g h used limit v l next r) : v.ownBlock ≠ some h := own_blk_ne k.row k.pw (by decide)
theorem NvS.c (k : NvS w B g h used limit v l next r) (i : Nat) (u : Value) (hu : (nva h v next r)[i]? = some u) : w.cell? ⟨g, i, none⟩ = some u := k.own.at_ hu
/-- A change at the power's block alone. -/
theorem NvS.power (k : NvS w B g h used limit v l next r) {u2 l2 : Int} (hp : Blk w' h 60 #[.int .i64 u2, .int .i64 l2]) (f : Fr (· = h) w w') : NvS w' B g h u2 l2 v l next r :=
  ⟨k.own.fr f k.ne, hp, ownsRow_fr k.row f (fun b hb e => k.rowh (by rw [hb, e])), k.data.fr f fun b hb => ⟨_, _, (show Blk w b 60 #[.int .i64 used, .int .i64 limit] from hb ▸ k.pw), by decide⟩⟩
/-- A change at the memory's own block alone, its row as it was. -/
theorem NvS.self (k : NvS w B g h used limit v l next r) {n2 : Int} {r2 : Rt} (hp : Blk w' g 58 (nva h v n2 r2)) (f : Fr (· = g) w w') : NvS w' B g h used limit v l n2 r2 :=
  ⟨hp, k.pw.fr f (fun e => k.ne e.symm), ownsRow_fr k.row f (fun b hb e => k.rowg (by rw [hb, e])), k.data.fr f fun b hb => ⟨_, _, (show Blk w b 58 (nva h v next r) from hb ▸ k.own), by decide⟩⟩
end
set_option maxHeartbeats 1600000 in
theorem tick_ok (h : Nat) (used limit : Int) (w : World) (hb : Blk w h 60 #[.int .i64 used, .int .i64 limit]) (hl : limit < 0 ∨ used < limit) (hu : -9223372036854775808 ≤ used) (hu2 : used < 9223372036854775807) :
    Calls Try.prog 23 #[.pointer (some ⟨h, 0, none⟩)] w fun e w' => e = .returned (.tuple #[]) ∧ Blk w' h 60 #[.int .i64 (used + 1), .int .i64 limit] ∧ Fr (· = h) w w' := by
  obtain ⟨c0, c1⟩ := hb.cells2
  have f0 := hb.frozen 0
  have HE := Lib.hid (hb.set_ 0 (.int .i64 (used + 1)))
  have HF : Hid (∀ n, Fr (· = h) w ((w.drewN n).setCell ⟨h, 0, none⟩ (.int .i64 (used + 1)))) := Lib.hid fun n => ((Fr.refl (· = h) w).drewN n).setCell (p := ⟨h, 0, none⟩) (.inl rfl) _
  have HB : Hid (∀ n, Blk ((w.drewN n).setCell ⟨h, 0, none⟩ (.int .i64 (used + 1))) h 60 #[.int .i64 (used + 1), .int .i64 limit]) := Lib.hid fun n => (hb.drewN n).set_ 0 (.int .i64 (used + 1))
  have hw : IntKind.i64.wrap (used + 1) = used + 1 := IntWalk.i64_in _ (by omega)
  clear hb
  go_enter Try.func23, Try.ntmps23
  rcases Int.lt_or_le limit 0 with h1 | h1
  · have d1 : decide (0 ≤ limit) = false := by simp; omega
    clear hl
    go_wp2
    go_quiet (fail)
    go_wp2
    go_end0
    exact ⟨rfl, HB.out _, HF.out _⟩
  · have d1 : decide (0 ≤ limit) = true := by simp; omega
    have d2 : decide (limit ≤ used) = false := by simp; omega
    clear hl
    go_wp2
    go_quiet (fail)
    go_wp2
    go_end0
    exact ⟨rfl, HB.out _, HF.out _⟩
theorem pnew_ok (limit : Int) (w : World) : Calls Try.prog 9 #[.int .i64 limit] w fun e w' => e = .returned (.pointer (some ⟨w.heap.size, 0, none⟩)) ∧ Blk w' w.heap.size 60 #[.int .i64 0, .int .i64 limit] ∧ w' = w.alloc (.cells #[.int .i64 0, .int .i64 limit] 60) := by
  go_enter Try.func9, Try.ntmps9
  go_wp2
  go_ret
  exact ⟨rfl, Blk.new _ _ _, rfl⟩
theorem new_ok (B h : Nat) (used limit : Int) (w : World) (hb : Blk w h 60 #[.int .i64 used, .int .i64 limit]) : Calls Try.prog 8 #[.pointer (some ⟨h, 0, none⟩)] w fun e w' => e = .returned (.pointer (some ⟨w.heap.size, 0, none⟩)) ∧ NvS w' B w.heap.size h used limit (.slice none 0 0) [] 1 rc0 ∧ Below w.heap.size w w' := by
  have HB := Lib.hid hb
  clear hb
  go_enter Try.func8, Try.ntmps8
  go_wp2
  go_ret
  exact ⟨rfl, ⟨Blk.new _ _ _, HB.out.alloc _, World.ownsRow_nil _ _ _ _, fun x hx => by simp at hx⟩, (Below.refl _ _).alloc (Nat.le_refl _) _⟩
theorem len_ok (B g h : Nat) (used limit : Int) (v : Value) (l : List Rc) (next : Int) (r : Rt) (w : World) (k : NvS w B g h used limit v l next r) :
    Calls Try.prog 14 #[.pointer (some ⟨g, 0, none⟩)] w fun e w' => e = .returned (.int .i64 l.length) ∧ w' = w := by
  obtain ⟨A, c, rfl, -, -⟩ := own_form k.row
  have hc := k.c 1 (.slice A l.length c) rfl
  clear k
  go_enter Try.func14, Try.ntmps14
  go_wp2
  go_ret
  exact ⟨rfl, rfl⟩
/-- The nine cells of the root. -/
theorem NvS.root {w : World} {B g h : Nat} {used limit next : Int} {v : Value} {l : List Rc} {r : Rt} (k : NvS w B g h used limit v l next r) :
    w.cell? ⟨g, 3, none⟩ = some (.int .i64 r.m) ∧ w.cell? ⟨g, 4, none⟩ = some (.int .i64 r.b) ∧ w.cell? ⟨g, 5, none⟩ = some (.int .i64 r.s) ∧ w.cell? ⟨g, 6, none⟩ = some (.int .i64 r.t) ∧ w.cell? ⟨g, 7, none⟩ = some (.int .i64 r.n) ∧ w.cell? ⟨g, 8, none⟩ = some (.int .i64 r.l) ∧
    w.cell? ⟨g, 9, none⟩ = some (.int .u64 r.gen) ∧ w.cell? ⟨g, 10, none⟩ = some (.int .u64 r.dur) ∧ w.cell? ⟨g, 11, none⟩ = some (.int .i64 r.stale) :=
  ⟨k.c 3 _ rfl, k.c 4 _ rfl, k.c 5 _ rfl, k.c 6 _ rfl, k.c 7 _ rfl, k.c 8 _ rfl, k.c 9 _ rfl, k.c 10 _ rfl, k.c 11 _ rfl⟩
set_option maxHeartbeats 1600000 in
theorem root_ok (B g h : Nat) (used limit : Int) (v : Value) (l : List Rc) (next : Int) (r : Rt) (w : World) (k : NvS w B g h used limit v l next r) :
    Calls Try.prog 17 #[.pointer (some ⟨g, 0, none⟩)] w fun e w' => e = .returned (.agg (rta r)) ∧ Below w.heap.size w w' := by
  obtain ⟨c3, c4, c5, c6, c7, c8, c9, c10, c11⟩ := (k.later ((Below.refl w.heap.size w).alloc (Nat.le_refl _) (.cells (rta ⟨0, 0, 0, 0, 0, 0, 0, 0, 0⟩) 33))).root
  have HB := Lib.hid (Blk.new w 33 (rta r))
  unfold rta at c3 c4 c5 c6 c7 c8 c9 c10 c11
  clear k
  go_enter Try.func17, Try.ntmps17
  go_wp2
  (try simp only [Exit.inBlock, Exit.then])
  exact bodyPost_ret (results_cell_row rfl _ _ w.heap.size 33 (rta r) (0, 0) _ rfl HB.out Try.underlying33 rfl (by kernel_rfl)) rfl ⟨rfl, (Below.refl _ _).alloc (Nat.le_refl _) _⟩
theorem used_ok (h : Nat) (used limit : Int) (w : World) (hb : Blk w h 60 #[.int .i64 used, .int .i64 limit]) :
    Calls Try.prog 18 #[.pointer (some ⟨h, 0, none⟩)] w fun e w' => e = .returned (.int .i64 used) ∧ w' = w := by
  obtain ⟨c0, c1⟩ := hb.cells2
  clear hb
  go_enter Try.func18, Try.ntmps18
  go_wp2
  go_ret
  exact ⟨rfl, rfl⟩
/-- The root, laid anew. -/
theorem set9 {w : World} {g h : Nat} {v : Value} {next : Int} {r : Rt} (k : Blk w g 58 (nva h v next r)) (r' : Rt) : Blk (((((((((w.setCell ⟨g, 3, none⟩ (.int .i64 r'.m)).setCell ⟨g, 4, none⟩ (.int .i64 r'.b)).setCell ⟨g, 5, none⟩ (.int .i64 r'.s)).setCell ⟨g, 6, none⟩ (.int .i64 r'.t)).setCell ⟨g, 7, none⟩ (.int .i64 r'.n)).setCell ⟨g, 8, none⟩ (.int .i64 r'.l)).setCell ⟨g, 9, none⟩ (.int .u64 r'.gen)).setCell ⟨g, 10, none⟩ (.int .u64 r'.dur)).setCell ⟨g, 11, none⟩ (.int .i64 r'.stale)) g 58 (nva h v next r') ∧ Fr (· = g) w (((((((((w.setCell ⟨g, 3, none⟩ (.int .i64 r'.m)).setCell ⟨g, 4, none⟩ (.int .i64 r'.b)).setCell ⟨g, 5, none⟩ (.int .i64 r'.s)).setCell ⟨g, 6, none⟩ (.int .i64 r'.t)).setCell ⟨g, 7, none⟩ (.int .i64 r'.n)).setCell ⟨g, 8, none⟩ (.int .i64 r'.l)).setCell ⟨g, 9, none⟩ (.int .u64 r'.gen)).setCell ⟨g, 10, none⟩ (.int .u64 r'.dur)).setCell ⟨g, 11, none⟩ (.int .i64 r'.stale)) :=
  by
    refine ⟨?_, (Fr.setCell (Fr.setCell (Fr.setCell (Fr.setCell (Fr.setCell (Fr.setCell (Fr.setCell (Fr.setCell (Fr.setCell (Fr.refl (· = g) w) (p := ⟨g, 3, none⟩) (.inl rfl) (.int .i64 r'.m)) (p := ⟨g, 4, none⟩) (.inl rfl) (.int .i64 r'.b)) (p := ⟨g, 5, none⟩) (.inl rfl) (.int .i64 r'.s)) (p := ⟨g, 6, none⟩) (.inl rfl) (.int .i64 r'.t)) (p := ⟨g, 7, none⟩) (.inl rfl) (.int .i64 r'.n)) (p := ⟨g, 8, none⟩) (.inl rfl) (.int .i64 r'.l)) (p := ⟨g, 9, none⟩) (.inl rfl) (.int .u64 r'.gen)) (p := ⟨g, 10, none⟩) (.inl rfl) (.int .u64 r'.dur)) (p := ⟨g, 11, none⟩) (.inl rfl) (.int .i64 r'.stale))⟩
    have h9 := (((((((((k.set_ 3 (.int .i64 r'.m)).set_ 4 (.int .i64 r'.b)).set_ 5 (.int .i64 r'.s)).set_ 6 (.int .i64 r'.t)).set_ 7 (.int .i64 r'.n)).set_ 8 (.int .i64 r'.l)).set_ 9 (.int .u64 r'.gen)).set_ 10 (.int .u64 r'.dur)).set_ 11 (.int .i64 r'.stale))
    simp only [nva, List.setIfInBounds_toArray, List.set_cons_succ, List.set_cons_zero] at h9 ⊢
    exact h9
set_option maxHeartbeats 3200000 in
theorem set_ok (B g h : Nat) (used limit : Int) (v : Value) (l : List Rc) (next : Int) (r r' : Rt) (w : World) (k : NvS w B g h used limit v l next r) (hl : limit < 0 ∨ used < limit) (hu : -9223372036854775808 ≤ used) (hu2 : used < 9223372036854775807) :
    Calls Try.prog 10 #[.pointer (some ⟨g, 0, none⟩), .agg (rta r')] w fun e w' => e = .returned (.tuple #[]) ∧ NvS w' B g h (used + 1) limit v l next r' ∧ Fr (fun b => b = g ∨ b = h) w w' := by
  have hA := (Below.refl w.heap.size w).alloc (Nat.le_refl _) (.cells (rta r') 33)
  have HK := Lib.hid (k.later hA)
  have HX := Lib.hid (Blk.new w 33 (rta r'))
  have HF1 : Hid (Fr (fun b => b = g ∨ b = h) w (w.alloc (.cells (rta r') 33))) := Lib.hid ((Fr.refl _ w).alloc _)
  have c0 := (k.later hA).c 0 (.pointer (some ⟨h, 0, none⟩)) rfl
  have HTK := Lib.hid (tick_ok h used limit _ HK.out.pw hl hu hu2)
  unfold rta at *
  clear k hA hl
  go_enter Try.func10, Try.ntmps10
  go_upto_region 2 with (go_at_call 23; (with_reducible refine HTK.out.mono ?_); rintro e w1 ⟨rfl, hp1, hf1⟩; have HK1 := Lib.hid (HK.out.power hp1 hf1); have HX1 := Lib.hid (HX.out.fr hf1 (Blk.ne_ HX.out HK.out.pw (by decide))); have hg1 := HK1.out.c 0 (.pointer (some ⟨h, 0, none⟩)) rfl)
  have hs := set9 HK1.out.own r'
  have HS := Lib.hid hs
  obtain ⟨c3, c4, c5, c6, c7, c8, c9, c10, c11⟩ := HK1.out.root
  have fz := fun i => HK1.out.own.frozen i
  have x0 := HX1.out.at_ (i := 0) (u := .int .i64 r'.m) rfl
  have x1 := HX1.out.at_ (i := 1) (u := .int .i64 r'.b) rfl
  have x2 := HX1.out.at_ (i := 2) (u := .int .i64 r'.s) rfl
  have x3 := HX1.out.at_ (i := 3) (u := .int .i64 r'.t) rfl
  have x4 := HX1.out.at_ (i := 4) (u := .int .i64 r'.n) rfl
  have x5 := HX1.out.at_ (i := 5) (u := .int .i64 r'.l) rfl
  have x6 := HX1.out.at_ (i := 6) (u := .int .u64 r'.gen) rfl
  have x7 := HX1.out.at_ (i := 7) (u := .int .u64 r'.dur) rfl
  have x8 := HX1.out.at_ (i := 8) (u := .int .i64 r'.stale) rfl
  clear hs
  go_wp2
  go_end0
  exact ⟨rfl, HK1.out.self HS.out.1 HS.out.2, (HF1.out.trans (hf1.mono fun b _ e => .inr e) fun _ _ e => e).trans (HS.out.2.mono fun b _ e => .inl e) fun _ _ e => e⟩
end Go.Proofs.Ytgcmfcdbgimnjaa
