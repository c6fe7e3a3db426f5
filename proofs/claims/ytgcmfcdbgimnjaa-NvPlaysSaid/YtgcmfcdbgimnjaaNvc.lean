/- Words for NvPlays: the memory beside the law's own root and records. No further condition. -/
import Derived.Test.YtgcmfcdbgimnjaaNv9
import Derived.Test.YtgcmfcdbgimnjaaNvb
namespace Go.Proofs.Ytgcmfcdbgimnjaa
open Go.RowKit

theorem keep_con (q : Int) (l : List Rc) : (keep q l).map Rc.con = (l.map Rc.con).filter (fun c => !decide (c.1 ≤ q)) := by
  unfold keep
  rw [List.filter_map]
  rfl
/-- The memory; the law's box of a root (q); the law's row of records (m). -/
structure Py (w0 w : World) (g h rb : Nat) (used : Int) (l : List Rc) (next : Int) (r q : Rt) (hv : Value) (m : List Rc) : Prop where
  nv : ∃ v, NvS w w0.heap.size g h used (-1) v l next r ∧ ∀ b, hv.ownBlock = some b → v.ownBlock ≠ some b
  bel : Below w0.heap.size w0 w
  far : w0.heap.size ≤ g ∧ w0.heap.size ≤ h ∧ w0.heap.size ≤ rb
  box : Blk w rb 33 (rta q)
  row : w.ownsRow w0.heap.size 45 4 hv m.length (rcs m)
  hd : ∀ x ∈ m, Rd w0 x.A (byv x.raw)
section
variable {w0 w w' : World} {g h rb : Nat} {used next : Int} {l m : List Rc} {r q : Rt} {hv : Value}
theorem Py.later (k : Py w0 w g h rb used l next r q hv m) (hb : Below w.heap.size w w') : Py w0 w' g h rb used l next r q hv m := by
  obtain ⟨v, h1, h2⟩ := k.nv
  exact ⟨⟨v, h1.later hb, h2⟩, k.bel.trans (hb.mono k.bel.size), k.far, k.box.later hb, ownsRow_later k.row hb, k.hd⟩
theorem Py.to {u2 n2 : Int} {l2 : List Rc} {r2 : Rt} {v v2 : Value} (k : Py w0 w g h rb used l next r q hv m) (hn : NvS w w0.heap.size g h used (-1) v l next r) (hd : ∀ b, hv.ownBlock = some b → v.ownBlock ≠ some b)
    (t : NvTo w w' w0.heap.size g h v u2 (-1) v2 l2 n2 r2) : Py w0 w' g h rb u2 l2 n2 r2 q hv m := by
  have hlt : ∀ b, hv.ownBlock = some b → b < w.heap.size := fun b e => (k.row.lt b e).2
  refine ⟨⟨v2, t.nv, fun b hb e => ?_⟩, k.bel.trans (t.fr.toBelow k.bel.size fun b hb => ?_), k.far, k.box.fr t.fr ?_, ownsRow_fr k.row t.fr fun b hb => ?_, k.hd⟩
  · rcases t.row with e2 | ⟨b2, e2, h2⟩
    · exact hd b hb (by rw [← e2]; exact e)
    · rw [e2] at e
      injection e with e
      have := hlt b hb
      omega
  · have := k.far
    rintro (e | e | e)
    · omega
    · omega
    · have := (hn.row.lt b e).1; omega
  · rintro (e | e | e)
    · exact Blk.ne_ k.box hn.own (by decide) e
    · exact Blk.ne_ k.box hn.pw (by decide) e
    · exact own_blk_ne hn.row k.box (by decide) e
  · rintro (e | e | e)
    · exact own_blk_ne k.row hn.own (by decide) (by rw [hb, e])
    · exact own_blk_ne k.row hn.pw (by decide) (by rw [hb, e])
    · exact hd b hb e
/-- Every act's block is as it was. -/
def Ka (w w' : World) : Prop := ∀ b cs, Blk w b 37 cs → Blk w' b 37 cs
theorem Ka.later (h : Below w.heap.size w w') : Ka w w' := fun _ _ k => k.later h
theorem Py.ka {u2 n2 : Int} {l2 : List Rc} {r2 : Rt} {v v2 : Value} (hn : NvS w w0.heap.size g h used (-1) v l next r)
    (t : NvTo w w' w0.heap.size g h v u2 (-1) v2 l2 n2 r2) : Ka w w' := fun b cs k => k.fr t.fr (by
  rintro (e | e | e)
  · exact Blk.ne_ k hn.own (by decide) e
  · exact Blk.ne_ k hn.pw (by decide) e
  · exact own_blk_ne hn.row k (by decide) e)
theorem rd_blk {A : Option Addr} {ad : Addr} {raw : List Int} (hr : Rd w A (byv raw)) (e : A = some ad) (ne : raw ≠ []) : ad.block < w.heap.size := by
  rcases raw with _ | ⟨x, t⟩
  · exact absurd rfl ne
  · obtain ⟨ad', e', hc⟩ := hr 0 (.int .u8 x) rfl
    rw [e] at e'
    injection e' with e'
    subst e'
    have := World.block_lt_of_cell? w _ hc
    rwa [block_of_add] at this
theorem pyApp (k : Py w0 w g h rb used l next r q hv m) (hl : l.length ≤ 1000) (hu : 0 ≤ used ∧ used ≤ 1000) (hx : 0 ≤ next ∧ next ≤ 1000) (kd lb : Int) (A0 : Option Addr) (raw : List Int) (c0 : Nat) (hr : Rd w0 A0 (byv raw)) (hraw : raw.length ≤ 1000) (hf : (l.length : Int) < r.n) :
    Calls Try.prog 12 #[.pointer (some ⟨g, 0, none⟩), .int .i64 kd, .int .i64 lb, .slice A0 raw.length c0] w fun e w' => e = .returned (.int .i64 0) ∧ ∃ x, x.con = (next, kd, lb, raw) ∧ Py w0 w' g h rb (used + 1) (l ++ [x]) (next + 1) r q hv m ∧ Ka w w' := by
  obtain ⟨v, hn, hd⟩ := k.nv
  refine (nvappend_ok _ g h used (-1) v l next r kd lb A0 raw c0 w hn (hr.later k.bel) (by omega) (by omega) hf k.bel.size (.inl (by decide)) (by omega) (by omega) hx.1 (by omega) (fun ad e ne => by have := rd_blk hr e ne; have := k.far; omega)).mono ?_
  rintro e w' ⟨rfl, x, v', hx2, -, ht⟩
  exact ⟨rfl, x, hx2, k.to hn hd ht, Py.ka hn ht⟩
theorem pyFull (k : Py w0 w g h rb used l next r q hv m) (hl : l.length ≤ 1000) (kd lb : Int) (u : Value) (hf : r.n ≤ l.length) :
    Calls Try.prog 12 #[.pointer (some ⟨g, 0, none⟩), .int .i64 kd, .int .i64 lb, u] w fun e w' => e = .returned (.int .i64 7) ∧ Py w0 w' g h rb used l next r q hv m ∧ Ka w w' := by
  obtain ⟨v, hn, hd⟩ := k.nv
  refine (nvfull_ok _ g h used (-1) v l next r kd lb u w hn (by omega) hf).mono ?_
  rintro e w' ⟨rfl, n, rfl⟩
  exact ⟨rfl, k.later (below_drewN (Below.refl _ _) n), Ka.later (below_drewN (Below.refl _ _) n)⟩
theorem pyCom (k : Py w0 w g h rb used l next r q hv m) (hl : l.length ≤ 1000) (hu : 0 ≤ used ∧ used ≤ 1000) (dur u : Int) :
    Calls Try.prog 11 #[.pointer (some ⟨g, 0, none⟩), .int .u64 dur, .int .u64 u] w fun e w' => e = .returned (.tuple #[]) ∧ Py w0 w' g h rb (used + 1) (keep u l) next { r with dur := dur } q hv m ∧ Ka w w' := by
  obtain ⟨v, hn, hd⟩ := k.nv
  refine (commit_ok _ g h used (-1) v l next r dur u w hn (by omega) (.inl (by decide)) (by omega) (by omega)).mono ?_
  rintro e w' ⟨rfl, v', ht⟩
  exact ⟨rfl, k.to hn hd ht, Py.ka hn ht⟩
theorem pySet (k : Py w0 w g h rb used l next r q hv m) (hu : 0 ≤ used ∧ used ≤ 1000) (r' : Rt) :
    Calls Try.prog 10 #[.pointer (some ⟨g, 0, none⟩), .agg (rta r')] w fun e w' => e = .returned (.tuple #[]) ∧ Py w0 w' g h rb (used + 1) l next r' q hv m ∧ Ka w w' := by
  obtain ⟨v, hn, hd⟩ := k.nv
  refine (set_ok _ g h used (-1) v l next r r' w hn (.inl (by decide)) (by omega) (by omega)).mono ?_
  rintro e w' ⟨rfl, h1, h2⟩
  have ht : NvTo w w' w0.heap.size g h v (used + 1) (-1) v l next r' := ⟨h1, h2.mono (fun b _ e => by rcases e with e | e; exact .inl e; exact .inr (.inl e)), .inl rfl⟩
  exact ⟨rfl, k.to hn hd ht, Py.ka hn ht⟩
theorem pySetE (k : Py w0 w g h rb used l next r q hv m) (hu : 0 ≤ used ∧ used ≤ 1000) (r' : Rt) :
    Calls Try.prog 10 #[.pointer (some ⟨g, 0, none⟩), .agg #[.int .i64 r'.m, .int .i64 r'.b, .int .i64 r'.s, .int .i64 r'.t, .int .i64 r'.n, .int .i64 r'.l, .int .u64 r'.gen, .int .u64 r'.dur, .int .i64 r'.stale]] w fun e w' => e = .returned (.tuple #[]) ∧ Py w0 w' g h rb (used + 1) l next r' q hv m ∧ Ka w w' := pySet k hu r'
/-- The law's row of records has one more. -/
theorem Py.push {v2 : Value} (k : Py w0 w g h rb used l next r q hv m) (x : Rc) (hx : Rd w0 x.A (byv x.raw)) (hg : w.grownBy w' hv.ownBlock) (ho : w'.ownsRow w0.heap.size 45 4 v2 (m.length + 1) (rcs m ++ rcv x))
    (ha : v2.ownBlock = hv.ownBlock ∨ v2.ownBlock = some w.heap.size) : Py w0 w' g h rb used l next r q v2 (m ++ [x]) := by
  obtain ⟨v, hn, hd⟩ := k.nv
  have fr : Fr (fun b => hv.ownBlock = some b) w w' := Fr.of_grown hg
  refine ⟨⟨v, ⟨hn.own.fr fr (fun e => own_blk_ne k.row hn.own (by decide) e), hn.pw.fr fr (fun e => own_blk_ne k.row hn.pw (by decide) e), ownsRow_fr hn.row fr (fun b hb e => hd b e hb), fun y hy => ownsRow_fr (hn.data y hy) fr (fun b hb e => own_own_ne k.row (hn.data y hy) (by decide) b e hb)⟩, fun b hb e => ?_⟩,
    k.bel.trans (fr.toBelow k.bel.size fun b hb e => by have := (k.row.lt b e).1; omega), k.far, k.box.fr fr (fun e => own_blk_ne k.row k.box (by decide) e), by rw [List.length_append, rcs_snoc]; exact ho, fun y hy => ?_⟩
  · rcases ha with ha | ha
    · exact hd b (by rw [← ha]; exact hb) e
    · rw [ha] at hb
      injection hb with hb
      have := (hn.row.lt b e).2
      omega
  · rcases List.mem_append.1 hy with hy | hy
    · exact k.hd y hy
    · simp at hy
      subst hy
      exact hx
theorem pyRoot (k : Py w0 w g h rb used l next r q hv m) : Calls Try.prog 17 #[.pointer (some ⟨g, 0, none⟩)] w fun e w' => e = .returned (.agg (rta r)) ∧ Below w.heap.size w w' := by
  obtain ⟨v, hn, -⟩ := k.nv
  exact root_ok _ g h used (-1) v l next r w hn
theorem pyLen (k : Py w0 w g h rb used l next r q hv m) : Calls Try.prog 14 #[.pointer (some ⟨g, 0, none⟩)] w fun e w' => e = .returned (.int .i64 l.length) ∧ w' = w := by
  obtain ⟨v, hn, -⟩ := k.nv
  exact len_ok _ g h used (-1) v l next r w hn
theorem pyUsed (k : Py w0 w g h rb used l next r q hv m) : Calls Try.prog 18 #[.pointer (some ⟨h, 0, none⟩)] w fun e w' => e = .returned (.int .i64 used) ∧ w' = w := by
  obtain ⟨v, hn, -⟩ := k.nv
  exact used_ok h used (-1) w hn.pw
theorem pyRec (k : Py w0 w g h rb used l next r q hv m) (hl : l.length ≤ 1000) (hraw : ∀ x ∈ l, x.raw.length ≤ 1000) : Calls Try.prog 13 #[.pointer (some ⟨g, 0, none⟩)] w fun e w' => ∃ A c m2, e = .returned (.slice A (List.length m2) c) ∧ m2.map Rc.con = l.map Rc.con ∧ Rd w' A (rcs m2) ∧ Hd w' m2 ∧ Below w.heap.size w w' := by
  obtain ⟨v, hn, -⟩ := k.nv
  refine (records_ok _ g h used (-1) v l next r w hn (by omega) (fun x hx => by have := hraw x hx; omega)).mono ?_
  rintro e w' ⟨v', m2, rfl, h1, h2, h3⟩
  obtain ⟨A, c, rfl, h4, -, h5⟩ := h2.hd
  exact ⟨A, c, m2, rfl, h1, h4, h5, h3⟩
/-- The law's own records, as they read. -/
theorem Py.have_ (k : Py w0 w g h rb used l next r q hv m) : ∃ A c, hv = .slice A m.length c ∧ Rd w A (rcs m) ∧ Hd w m := by
  obtain ⟨A, c, e, -, h1⟩ := own_form k.row
  exact ⟨A, c, e, h1, fun x hx => (k.hd x hx).later k.bel⟩
/-- A change at the root's box alone. -/
theorem Py.boxed (k : Py w0 w g h rb used l next r q hv m) {q' : Rt} (hb : Blk w' rb 33 (rta q')) (f : Fr (· = rb) w w') : Py w0 w' g h rb used l next r q' hv m := by
  obtain ⟨v, hn, hd⟩ := k.nv
  have n1 := hn.own.ne_ k.box (by decide)
  have n2 := hn.pw.ne_ k.box (by decide)
  refine ⟨⟨v, ⟨hn.own.fr f n1, hn.pw.fr f n2, ownsRow_fr hn.row f (fun b hb e => own_blk_ne hn.row k.box (by decide) (by rw [hb, e])), fun y hy => ownsRow_fr (hn.data y hy) f (fun b hb e => own_blk_ne (hn.data y hy) k.box (by decide) (by rw [hb, e]))⟩, hd⟩,
    k.bel.trans (f.toBelow k.bel.size fun b hb e => by have := k.far; omega), k.far, hb, ownsRow_fr k.row f (fun b hb e => own_blk_ne k.row k.box (by decide) (by rw [hb, e])), k.hd⟩
theorem Py.dur (k : Py w0 w g h rb used l next r q hv m) (d : Int) : Py w0 (w.setCell ⟨rb, 7, none⟩ (.int .u64 d)) g h rb used l next r { q with dur := d } hv m := by
  have h9 := k.box.set_ 7 (.int .u64 d)
  exact k.boxed h9 ((Fr.refl (· = rb) w).setCell (p := ⟨rb, 7, none⟩) (.inl rfl) _)
theorem Py.all (k : Py w0 w g h rb used l next r q hv m) (r' : Rt) : Py w0 (((((((((w.setCell ⟨rb, 0, none⟩ (.int .i64 r'.m)).setCell ⟨rb, 1, none⟩ (.int .i64 r'.b)).setCell ⟨rb, 2, none⟩ (.int .i64 r'.s)).setCell ⟨rb, 3, none⟩ (.int .i64 r'.t)).setCell ⟨rb, 4, none⟩ (.int .i64 r'.n)).setCell ⟨rb, 5, none⟩ (.int .i64 r'.l)).setCell ⟨rb, 6, none⟩ (.int .u64 r'.gen)).setCell ⟨rb, 7, none⟩ (.int .u64 r'.dur)).setCell ⟨rb, 8, none⟩ (.int .i64 r'.stale)) g h rb used l next r r' hv m := by
  refine k.boxed ?_ (Fr.setCell (Fr.setCell (Fr.setCell (Fr.setCell (Fr.setCell (Fr.setCell (Fr.setCell (Fr.setCell (Fr.setCell (Fr.refl (· = rb) w) (p := ⟨rb, 0, none⟩) (.inl rfl) (.int .i64 r'.m)) (p := ⟨rb, 1, none⟩) (.inl rfl) (.int .i64 r'.b)) (p := ⟨rb, 2, none⟩) (.inl rfl) (.int .i64 r'.s)) (p := ⟨rb, 3, none⟩) (.inl rfl) (.int .i64 r'.t)) (p := ⟨rb, 4, none⟩) (.inl rfl) (.int .i64 r'.n)) (p := ⟨rb, 5, none⟩) (.inl rfl) (.int .i64 r'.l)) (p := ⟨rb, 6, none⟩) (.inl rfl) (.int .u64 r'.gen)) (p := ⟨rb, 7, none⟩) (.inl rfl) (.int .u64 r'.dur)) (p := ⟨rb, 8, none⟩) (.inl rfl) (.int .i64 r'.stale))
  have h9 := (((((((((k.box.set_ 0 (.int .i64 r'.m)).set_ 1 (.int .i64 r'.b)).set_ 2 (.int .i64 r'.s)).set_ 3 (.int .i64 r'.t)).set_ 4 (.int .i64 r'.n)).set_ 5 (.int .i64 r'.l)).set_ 6 (.int .u64 r'.gen)).set_ 7 (.int .u64 r'.dur)).set_ 8 (.int .i64 r'.stale))
  simp only [rta, List.setIfInBounds_toArray, List.set_cons_succ, List.set_cons_zero] at h9 ⊢
  exact h9
/-- Another row of records, laid behind all that there was, takes the row's place. -/
theorem Py.left {lv : Value} {m2 : List Rc} (k : Py w0 w g h rb used l next r q hv m) (hb : Below w.heap.size w w') (ho : w'.ownsRow w.heap.size 45 4 lv m2.length (rcs m2)) (hs : ∀ x ∈ m2, x ∈ m) : Py w0 w' g h rb used l next r q lv m2 := by
  have k' := k.later hb
  obtain ⟨v, hn, hd⟩ := k.nv
  refine ⟨⟨v, hn.later hb, fun b e e2 => ?_⟩, k'.bel, k.far, k'.box, own_base ho k.bel.size, fun x hx => k.hd x (hs x hx)⟩
  have h1 := (ho.lt b e).1
  have h2 := (hn.row.lt b e2).2
  omega
theorem Py.cells (k : Py w0 w g h rb used l next r q hv m) : w.cell? ⟨rb, 0, none⟩ = some (.int .i64 q.m) ∧ w.cell? ⟨rb, 1, none⟩ = some (.int .i64 q.b) ∧ w.cell? ⟨rb, 2, none⟩ = some (.int .i64 q.s) ∧ w.cell? ⟨rb, 3, none⟩ = some (.int .i64 q.t) ∧ w.cell? ⟨rb, 4, none⟩ = some (.int .i64 q.n) ∧ w.cell? ⟨rb, 5, none⟩ = some (.int .i64 q.l) ∧
    w.cell? ⟨rb, 6, none⟩ = some (.int .u64 q.gen) ∧ w.cell? ⟨rb, 7, none⟩ = some (.int .u64 q.dur) ∧ w.cell? ⟨rb, 8, none⟩ = some (.int .i64 q.stale) :=
  ⟨k.box.at_ rfl, k.box.at_ rfl, k.box.at_ rfl, k.box.at_ rfl, k.box.at_ rfl, k.box.at_ rfl, k.box.at_ rfl, k.box.at_ rfl, k.box.at_ rfl⟩
theorem rt_neq (r : Rt) (W : World) : (binOp .neq 33 (.agg #[.int .i64 r.m, .int .i64 r.b, .int .i64 r.s, .int .i64 r.t, .int .i64 r.n, .int .i64 r.l, .int .u64 r.gen, .int .u64 r.dur, .int .i64 r.stale]) (.agg #[.int .i64 r.m, .int .i64 r.b, .int .i64 r.s, .int .i64 r.t, .int .i64 r.n, .int .i64 r.l, .int .u64 r.gen, .int .u64 r.dur, .int .i64 r.stale])).run Try.prog W = .ok (.bool false) W := by
  go_simp
theorem Py.dr (k : Py w0 w g h rb used l next r q hv m) : Py w0 w.drew g h rb used l next r q hv m := k.later (Below.refl _ _).drew
theorem Py.dn (k : Py w0 w g h rb used l next r q hv m) (n : Nat) : Py w0 (w.drewN n) g h rb used l next r q hv m := k.later (below_drewN (Below.refl _ _) n)
theorem rootP (k : Py w0 w g h rb used l next r q hv m) : Calls Try.prog 17 #[.pointer (some ⟨g, 0, none⟩)] w fun e w' => e = .returned (.agg #[.int .i64 r.m, .int .i64 r.b, .int .i64 r.s, .int .i64 r.t, .int .i64 r.n, .int .i64 r.l, .int .u64 r.gen, .int .u64 r.dur, .int .i64 r.stale]) ∧ Py w0 w' g h rb used l next r q hv m := by
  refine (pyRoot k).mono ?_
  rintro e w' ⟨rfl, hb⟩
  exact ⟨rfl, k.later hb⟩
/-- Equal, behind a name. -/
def EqN (a b : Nat) : Prop := a = b
theorem lenP {n : Nat} (k : Py w0 w g h rb used l next r q hv m) (hm : m.map Rc.con = l.map Rc.con) (hn : EqN n m.length) : Calls Try.prog 14 #[.pointer (some ⟨g, 0, none⟩)] w fun e w' => e = .returned (.int .i64 n) ∧ Py w0 w' g h rb used l next r q hv m := by
  refine (pyLen k).mono ?_
  rintro e w' ⟨rfl, rfl⟩
  have hlen : m.length = l.length := by simpa using congrArg List.length hm
  exact ⟨by rw [show n = m.length from hn, hlen], k⟩
theorem usedP (k : Py w0 w g h rb used l next r q hv m) : Calls Try.prog 18 #[.pointer (some ⟨h, 0, none⟩)] w fun e w' => e = .returned (.int .i64 used) ∧ Py w0 w' g h rb used l next r q hv m := by
  refine (pyUsed k).mono ?_
  rintro e w' ⟨rfl, rfl⟩
  exact ⟨rfl, k⟩
theorem recP (k : Py w0 w g h rb used l next r q hv m) (hl : l.length ≤ 1000) (hraw : ∀ x ∈ l, x.raw.length ≤ 1000) : Calls Try.prog 13 #[.pointer (some ⟨g, 0, none⟩)] w fun e w' => ∃ A c m2, e = .returned (.slice A (List.length m2) c) ∧ m2.map Rc.con = l.map Rc.con ∧ Rd w' A (rcs m2) ∧ Hd w' m2 ∧ Py w0 w' g h rb used l next r q hv m := by
  refine (pyRec k hl hraw).mono ?_
  rintro e w' ⟨A, c, m2, rfl, h1, h2, h3, h4⟩
  exact ⟨A, c, m2, rfl, h1, h2, h3, k.later h4⟩
theorem sameP {A B : Option Addr} {c d n : Nat} {m2 : List Rc} (k : Py w0 w g h rb used l next r q (.slice B n d) m) (hn : EqN n m.length) (h1 : m2.map Rc.con = l.map Rc.con) (h2 : Rd w A (rcs m2)) (h3 : Hd w m2) (hm : m.map Rc.con = l.map Rc.con) (hl : l.length ≤ 1000) (hraw : ∀ x ∈ l, x.raw.length ≤ 1000) :
    Calls Try.prog 19 #[.slice A m2.length c, .slice B n d] w fun e w' => e = .returned (.bool true) ∧ Py w0 w' g h rb used l next r q (.slice B n d) m := by
  obtain rfl : n = m.length := hn
  obtain ⟨B', d', e', hrb, hdb⟩ := k.have_
  injection e' with e1 e2 e3
  subst e1 e3
  have hlen : m2.length = l.length := by simpa using congrArg List.length h1
  have hr2 : ∀ y ∈ m2, y.raw.length ≤ 10000000 := fun y hy => by
    have h4 : y.con ∈ l.map Rc.con := h1 ▸ List.mem_map_of_mem hy
    obtain ⟨z, hz, e⟩ := List.mem_map.1 h4
    have : z.raw = y.raw := congrArg (·.2.2.2) e
    have := hraw z hz
    simp_all
    omega
  refine (same_ok A B c d m2 m w h2 hrb h3 hdb (by omega) hr2).mono ?_
  rintro e w' ⟨rfl, n, rfl⟩
  exact ⟨by rw [decide_eq_true (h1.trans hm.symm)], k.dn n⟩
end
end Go.Proofs.Ytgcmfcdbgimnjaa
