/- The memory beside the boxes of NvWhole. No further condition. -/
import Derived.Test.YtgcmfcdbgimnjaaNvf
namespace Go.Proofs.Ytgcmfcdbgimnjaa
open Go.RowKit

theorem Blk.fa {w : World} {g b i : Nat} {t : TypeId} {cs : Array Value} {u : Value} (k : Blk w g t cs) (hne : g ≠ b) : Blk (w.setCell ⟨b, i, none⟩ u) g t cs := k.far (p := ⟨b, i, none⟩) hne u
/-- Blocks of other types are as they were. -/
def Kt (w w' : World) : Prop := ∀ t b cs, t ≠ 58 → t ≠ 60 → t ≠ 45 → t ≠ 42 → t ≠ 33 → Blk w b t cs → Blk w' b t cs
theorem Kt.later {w w' : World} (h : Below w.heap.size w w') : Kt w w' := fun _ _ _ _ _ _ _ _ k => k.later h
theorem Kt.trans {w w1 w' : World} (h : Kt w w1) (k : Kt w1 w') : Kt w w' := fun t b cs h1 h2 h3 h4 h5 q => k t b cs h1 h2 h3 h4 h5 (h t b cs h1 h2 h3 h4 h5 q)
theorem Kt.nv {w w' : World} {B g h : Nat} {used lim next u2 n2 : Int} {v v2 : Value} {l l2 : List Rc} {r r2 : Rt} (hn : NvS w B g h used lim v l next r) (t : NvTo w w' B g h v u2 lim v2 l2 n2 r2) : Kt w w' := fun ty b cs h1 h2 h3 _ _ k => k.fr t.fr (by
  rintro (e | e | e)
  · exact Blk.ne_ k hn.own h1 e
  · exact Blk.ne_ k hn.pw h2 e
  · exact own_blk_ne hn.row k (fun e => h3 e.symm) e)
/-- The memory; the box of records (wb), the box of a root (rb). -/
structure Wh (w0 w : World) (g h wb rb : Nat) (used lim : Int) (l : List Rc) (next : Int) (r : Rt) : Prop where
  nv : ∃ v, NvS w w0.heap.size g h used lim v l next r
  bel : Below w0.heap.size w0 w
  far : w0.heap.size ≤ g ∧ w0.heap.size ≤ h ∧ w0.heap.size ≤ wb ∧ w0.heap.size ≤ rb
  wasb : ∃ u, Blk w wb 42 #[u]
  rootb : ∃ q, Blk w rb 33 (rta q)
/-- What holds of the numbers. -/
structure Wi (used lim : Int) (l : List Rc) (next : Int) (r : Rt) (K : Nat) : Prop where
  n1 : r.n = 6
  l1 : l.length ≤ 6
  u1 : 0 ≤ used ∧ used ≤ lim ∧ lim ≤ 100
  x1 : 0 ≤ next ∧ next ≤ K
  raw1 : ∀ x ∈ l, x.raw = []
section
variable {w0 w w' : World} {g h wb rb K : Nat} {used lim next : Int} {l m : List Rc} {r q : Rt}
theorem Wh.later (k : Wh w0 w g h wb rb used lim l next r) (hb : Below w.heap.size w w') : Wh w0 w' g h wb rb used lim l next r := by
  obtain ⟨v, h1⟩ := k.nv
  obtain ⟨u, h2⟩ := k.wasb
  obtain ⟨q, h3⟩ := k.rootb
  exact ⟨⟨v, h1.later hb⟩, k.bel.trans (hb.mono k.bel.size), k.far, ⟨u, h2.later hb⟩, ⟨q, h3.later hb⟩⟩
theorem Wh.to {u2 n2 : Int} {l2 : List Rc} {r2 : Rt} {v v2 : Value} (k : Wh w0 w g h wb rb used lim l next r) (hn : NvS w w0.heap.size g h used lim v l next r) (t : NvTo w w' w0.heap.size g h v u2 lim v2 l2 n2 r2) : Wh w0 w' g h wb rb u2 lim l2 n2 r2 := by
  obtain ⟨u, h2⟩ := k.wasb
  obtain ⟨q, h3⟩ := k.rootb
  refine ⟨⟨v2, t.nv⟩, k.bel.trans (t.fr.toBelow k.bel.size fun b hb => ?_), k.far, ⟨u, h2.fr t.fr ?_⟩, ⟨q, h3.fr t.fr ?_⟩⟩
  · have := k.far
    rintro (e | e | e)
    · omega
    · omega
    · have := (hn.row.lt b e).1; omega
  · rintro (e | e | e)
    · exact Blk.ne_ h2 hn.own (by decide) e
    · exact Blk.ne_ h2 hn.pw (by decide) e
    · exact own_blk_ne hn.row h2 (by decide) e
  · rintro (e | e | e)
    · exact Blk.ne_ h3 hn.own (by decide) e
    · exact Blk.ne_ h3 hn.pw (by decide) e
    · exact own_blk_ne hn.row h3 (by decide) e
theorem wApp (k : Wh w0 w g h wb rb used lim l next r) (i : Wi used lim l next r K) (hK : K ≤ 1000) (hc : used < lim ∨ r.n ≤ (l.length : Int)) (kd lb : Int) :
    Calls Try.prog 12 #[.pointer (some ⟨g, 0, none⟩), .int .i64 kd, .int .i64 lb, .slice none 0 0] w fun e w' => ∃ z : Int, e = .returned (.int .i64 z) ∧ Kt w w' ∧ ∃ u2 l2 n2 r2, Wh w0 w' g h wb rb u2 lim l2 n2 r2 ∧ Wi u2 lim l2 n2 r2 (K + 1) := by
  obtain ⟨v, hn⟩ := k.nv
  obtain ⟨i1, i2, ⟨i3, i4, i5⟩, ⟨i6, i7⟩, i8⟩ := i
  by_cases hf : (l.length : Int) < r.n
  · have hu : used < lim := by omega
    refine (nvappend_ok _ g h used lim v l next r kd lb none [] 0 w hn (Rd.nil _ _) (by simp) (by omega) hf k.bel.size (.inr hu) (by omega) (by omega) i6 (by omega) (fun ad e _ => by cases e)).mono ?_
    rintro e w' ⟨rfl, x, v', hx, -, ht⟩
    refine ⟨_, rfl, Kt.nv hn ht, _, _, _, _, k.to hn ht, ⟨i1, by rw [List.length_append]; simp; omega, ⟨by omega, by omega, i5⟩, ⟨by omega, by omega⟩, fun y hy => ?_⟩⟩
    rcases List.mem_append.1 hy with hy | hy
    · exact i8 y hy
    · simp at hy
      subst hy
      exact congrArg (·.2.2.2) hx
  · refine (nvfull_ok _ g h used lim v l next r kd lb _ w hn (by omega) (by omega)).mono ?_
    rintro e w' ⟨rfl, n, rfl⟩
    exact ⟨_, rfl, Kt.later (below_drewN (Below.refl _ _) n), _, _, _, _, k.later (below_drewN (Below.refl _ _) n), ⟨i1, i2, ⟨i3, i4, i5⟩, ⟨i6, by omega⟩, i8⟩⟩
theorem wAppOff (k : Wh w0 w g h wb rb used lim l next r) (i : Wi used lim l next r K) (hu : used = lim) (hf : (l.length : Int) < r.n) (kd lb : Int) :
    Calls Try.prog 12 #[.pointer (some ⟨g, 0, none⟩), .int .i64 kd, .int .i64 lb, .slice none 0 0] w fun e w' => e = .panicked gone ∧ Below w.heap.size w w' := by
  obtain ⟨v, hn⟩ := k.nv
  have h1 := i.u1
  exact append_off _ g h used lim v l next r kd lb _ w hn hf (by omega) (by omega)
theorem wCom (k : Wh w0 w g h wb rb used lim l next r) (i : Wi used lim l next r K) (hu : used < lim) (dur u : Int) :
    Calls Try.prog 11 #[.pointer (some ⟨g, 0, none⟩), .int .u64 dur, .int .u64 u] w fun e w' => e = .returned (.tuple #[]) ∧ Kt w w' ∧ ∃ u2 l2 n2 r2, Wh w0 w' g h wb rb u2 lim l2 n2 r2 ∧ Wi u2 lim l2 n2 r2 (K + 1) := by
  obtain ⟨v, hn⟩ := k.nv
  obtain ⟨i1, i2, ⟨i3, i4, i5⟩, ⟨i6, i7⟩, i8⟩ := i
  refine (commit_ok _ g h used lim v l next r dur u w hn (by omega) (.inr hu) (by omega) (by omega)).mono ?_
  rintro e w' ⟨rfl, v', ht⟩
  exact ⟨rfl, Kt.nv hn ht, _, _, _, _, k.to hn ht, ⟨i1, by have := keep_len u l; omega, ⟨by omega, by omega, i5⟩, ⟨i6, by omega⟩, fun y hy => i8 y (List.mem_filter.1 hy).1⟩⟩
theorem wComOff (k : Wh w0 w g h wb rb used lim l next r) (i : Wi used lim l next r K) (hu : used = lim) (dur u : Int) :
    Calls Try.prog 11 #[.pointer (some ⟨g, 0, none⟩), .int .u64 dur, .int .u64 u] w fun e w' => e = .panicked gone ∧ Below w.heap.size w w' := by
  obtain ⟨v, hn⟩ := k.nv
  have h1 := i.u1
  exact commit_off _ g h used lim v l next r dur u w hn (by omega) (by omega)
theorem wSet (k : Wh w0 w g h wb rb used lim l next r) (i : Wi used lim l next r K) (hu : used < lim) (dur : Int) :
    Calls Try.prog 10 #[.pointer (some ⟨g, 0, none⟩), .agg #[.int .i64 0, .int .i64 0, .int .i64 0, .int .i64 0, .int .i64 6, .int .i64 0, .int .u64 dur, .int .u64 0, .int .i64 0]] w fun e w' => e = .returned (.tuple #[]) ∧ Kt w w' ∧ ∃ u2 l2 n2 r2, Wh w0 w' g h wb rb u2 lim l2 n2 r2 ∧ Wi u2 lim l2 n2 r2 (K + 1) := by
  obtain ⟨v, hn⟩ := k.nv
  obtain ⟨i1, i2, ⟨i3, i4, i5⟩, ⟨i6, i7⟩, i8⟩ := i
  refine (set_ok _ g h used lim v l next r ⟨0, 0, 0, 0, 6, 0, dur, 0, 0⟩ w hn (.inr hu) (by omega) (by omega)).mono ?_
  rintro e w' ⟨rfl, h1, h2⟩
  have ht : NvTo w w' w0.heap.size g h v (used + 1) lim v l next ⟨0, 0, 0, 0, 6, 0, dur, 0, 0⟩ := ⟨h1, h2.mono (fun b _ e => by rcases e with e | e; exact .inl e; exact .inr (.inl e)), .inl rfl⟩
  exact ⟨rfl, Kt.nv hn ht, _, _, _, _, k.to hn ht, ⟨rfl, i2, ⟨by omega, by omega, i5⟩, ⟨i6, by omega⟩, i8⟩⟩
theorem wSetOff (k : Wh w0 w g h wb rb used lim l next r) (i : Wi used lim l next r K) (hu : used = lim) (dur : Int) :
    Calls Try.prog 10 #[.pointer (some ⟨g, 0, none⟩), .agg #[.int .i64 0, .int .i64 0, .int .i64 0, .int .i64 0, .int .i64 6, .int .i64 0, .int .u64 dur, .int .u64 0, .int .i64 0]] w fun e w' => e = .panicked gone ∧ Below w.heap.size w w' := by
  obtain ⟨v, hn⟩ := k.nv
  have h1 := i.u1
  exact set_off _ g h used lim v l next r ⟨0, 0, 0, 0, 6, 0, dur, 0, 0⟩ w hn (by omega) (by omega)
theorem wRec (k : Wh w0 w g h wb rb used lim l next r) (i : Wi used lim l next r K) : Calls Try.prog 13 #[.pointer (some ⟨g, 0, none⟩)] w fun e w' => ∃ v m, e = .returned v ∧ m.map Rc.con = l.map Rc.con ∧ Rw w' w.heap.size v m ∧ Below w.heap.size w w' := by
  obtain ⟨v, hn⟩ := k.nv
  exact records_ok _ g h used lim v l next r w hn (by have := i.l1; omega) (fun x hx => by rw [i.raw1 x hx]; simp)
theorem wRoot (k : Wh w0 w g h wb rb used lim l next r) : Calls Try.prog 17 #[.pointer (some ⟨g, 0, none⟩)] w fun e w' => e = .returned (.agg #[.int .i64 r.m, .int .i64 r.b, .int .i64 r.s, .int .i64 r.t, .int .i64 r.n, .int .i64 r.l, .int .u64 r.gen, .int .u64 r.dur, .int .i64 r.stale]) ∧ Below w.heap.size w w' := by
  obtain ⟨v, hn⟩ := k.nv
  exact root_ok _ g h used lim v l next r w hn
theorem Rw.fr {B : Nat} {v : Value} {S : Nat → Prop} (k : Rw w B v m) (f : Fr S w w') (hS : ∀ b, S b → b < B) : Rw w' B v m :=
  ⟨ownsRow_fr k.row f fun b hb e => by have := (k.row.lt b hb).1; have := hS b e; omega, fun x hx => ownsRow_fr (k.data x hx) f fun b hb e => by have := ((k.data x hx).lt b hb).1; have := hS b e; omega⟩
/-- The boxes hold what the memory has. -/
structure Wq (w0 w : World) (g h wb rb : Nat) (used lim : Int) (l : List Rc) (next : Int) (r : Rt) : Prop where
  wh : Wh w0 w g h wb rb used lim l next r
  was : ∃ B v m, Blk w wb 42 #[v] ∧ Rw w B v m ∧ m.map Rc.con = l.map Rc.con
  rt : Blk w rb 33 (rta r)
theorem Wq.later (k : Wq w0 w g h wb rb used lim l next r) (hb : Below w.heap.size w w') : Wq w0 w' g h wb rb used lim l next r := by
  obtain ⟨B, v, m, h1, h2, h3⟩ := k.was
  exact ⟨k.wh.later hb, ⟨B, v, m, h1.later hb, h2.later hb, h3⟩, k.rt.later hb⟩
theorem Wq.of {B : Nat} {v : Value} (k : Wh w0 w g h wb rb used lim l next r) (hr : Rw w B v m) (hm : m.map Rc.con = l.map Rc.con) (hB : wb < B ∧ rb < B) (f : Fr (fun b => b = wb ∨ b = rb) w w') (h1 : Blk w' wb 42 #[v]) (h2 : Blk w' rb 33 (rta r)) : Wq w0 w' g h wb rb used lim l next r ∧ Kt w w' := by
  obtain ⟨v', hn⟩ := k.nv
  obtain ⟨u, hw⟩ := k.wasb
  obtain ⟨q, hq⟩ := k.rootb
  have hne : ∀ {t : TypeId} {b : Nat} {cs : Array Value}, Blk w b t cs → t ≠ 42 → t ≠ 33 → ¬ (b = wb ∨ b = rb) := by
    rintro t b cs hb g1 g2 (e | e)
    · exact Blk.ne_ hb hw g1 e
    · exact Blk.ne_ hb hq g2 e
  have hno : ∀ {b0 : Nat} {e : TypeId} {size n : Nat} {u : Value} {xs : List Value}, w.ownsRow b0 e size u n xs → e ≠ 42 → e ≠ 33 → ∀ b, u.ownBlock = some b → ¬ (b = wb ∨ b = rb) := by
    rintro b0 e size n u xs ho g1 g2 b hb (e | e)
    · exact own_blk_ne ho hw g1 (by rw [hb, e])
    · exact own_blk_ne ho hq g2 (by rw [hb, e])
  refine ⟨⟨⟨⟨v', ⟨hn.own.fr f (hne hn.own (by decide) (by decide)), hn.pw.fr f (hne hn.pw (by decide) (by decide)), ownsRow_fr hn.row f (hno hn.row (by decide) (by decide)), fun x hx => ownsRow_fr (hn.data x hx) f (hno (hn.data x hx) (by decide) (by decide))⟩⟩, k.bel.trans (f.toBelow k.bel.size fun b hb e => by have := k.far; omega), k.far, ⟨v, h1⟩, ⟨r, h2⟩⟩, ⟨B, v, m, h1, hr.fr f (fun b e => by omega), hm⟩, h2⟩, fun t b cs g1 g2 g3 g4 g5 kb => kb.fr f (hne kb g4 g5)⟩
theorem set9r {w : World} {g : Nat} {r : Rt} (k : Blk w g 33 (rta r)) (r' : Rt) : Blk (((((((((w.setCell ⟨g, 0, none⟩ (.int .i64 r'.m)).setCell ⟨g, 1, none⟩ (.int .i64 r'.b)).setCell ⟨g, 2, none⟩ (.int .i64 r'.s)).setCell ⟨g, 3, none⟩ (.int .i64 r'.t)).setCell ⟨g, 4, none⟩ (.int .i64 r'.n)).setCell ⟨g, 5, none⟩ (.int .i64 r'.l)).setCell ⟨g, 6, none⟩ (.int .u64 r'.gen)).setCell ⟨g, 7, none⟩ (.int .u64 r'.dur)).setCell ⟨g, 8, none⟩ (.int .i64 r'.stale)) g 33 (rta r') ∧
    Fr (· = g) w (((((((((w.setCell ⟨g, 0, none⟩ (.int .i64 r'.m)).setCell ⟨g, 1, none⟩ (.int .i64 r'.b)).setCell ⟨g, 2, none⟩ (.int .i64 r'.s)).setCell ⟨g, 3, none⟩ (.int .i64 r'.t)).setCell ⟨g, 4, none⟩ (.int .i64 r'.n)).setCell ⟨g, 5, none⟩ (.int .i64 r'.l)).setCell ⟨g, 6, none⟩ (.int .u64 r'.gen)).setCell ⟨g, 7, none⟩ (.int .u64 r'.dur)).setCell ⟨g, 8, none⟩ (.int .i64 r'.stale)) := by
  refine ⟨?_, Fr.setCell (Fr.setCell (Fr.setCell (Fr.setCell (Fr.setCell (Fr.setCell (Fr.setCell (Fr.setCell (Fr.setCell (Fr.refl (· = g) w) (p := ⟨g, 0, none⟩) (.inl rfl) (.int .i64 r'.m)) (p := ⟨g, 1, none⟩) (.inl rfl) (.int .i64 r'.b)) (p := ⟨g, 2, none⟩) (.inl rfl) (.int .i64 r'.s)) (p := ⟨g, 3, none⟩) (.inl rfl) (.int .i64 r'.t)) (p := ⟨g, 4, none⟩) (.inl rfl) (.int .i64 r'.n)) (p := ⟨g, 5, none⟩) (.inl rfl) (.int .i64 r'.l)) (p := ⟨g, 6, none⟩) (.inl rfl) (.int .u64 r'.gen)) (p := ⟨g, 7, none⟩) (.inl rfl) (.int .u64 r'.dur)) (p := ⟨g, 8, none⟩) (.inl rfl) (.int .i64 r'.stale)⟩
  have h9 := (((((((((k.set_ 0 (.int .i64 r'.m)).set_ 1 (.int .i64 r'.b)).set_ 2 (.int .i64 r'.s)).set_ 3 (.int .i64 r'.t)).set_ 4 (.int .i64 r'.n)).set_ 5 (.int .i64 r'.l)).set_ 6 (.int .u64 r'.gen)).set_ 7 (.int .u64 r'.dur)).set_ 8 (.int .i64 r'.stale))
  simp only [rta, List.setIfInBounds_toArray, List.set_cons_succ, List.set_cons_zero] at h9 ⊢
  exact h9
theorem Wq.ofA {B : Nat} {v : Value} (k : Wh w0 w g h wb rb used lim l next r) (hr : Rw w B v m) (hm : m.map Rc.con = l.map Rc.con) (hB : wb < B ∧ rb < B) : Wq w0 ((((((((((w.setCell ⟨wb, 0, none⟩ v).setCell ⟨rb, 0, none⟩ (.int .i64 r.m)).setCell ⟨rb, 1, none⟩ (.int .i64 r.b)).setCell ⟨rb, 2, none⟩ (.int .i64 r.s)).setCell ⟨rb, 3, none⟩ (.int .i64 r.t)).setCell ⟨rb, 4, none⟩ (.int .i64 r.n)).setCell ⟨rb, 5, none⟩ (.int .i64 r.l)).setCell ⟨rb, 6, none⟩ (.int .u64 r.gen)).setCell ⟨rb, 7, none⟩ (.int .u64 r.dur)).setCell ⟨rb, 8, none⟩ (.int .i64 r.stale)) g h wb rb used lim l next r ∧ Kt w ((((((((((w.setCell ⟨wb, 0, none⟩ v).setCell ⟨rb, 0, none⟩ (.int .i64 r.m)).setCell ⟨rb, 1, none⟩ (.int .i64 r.b)).setCell ⟨rb, 2, none⟩ (.int .i64 r.s)).setCell ⟨rb, 3, none⟩ (.int .i64 r.t)).setCell ⟨rb, 4, none⟩ (.int .i64 r.n)).setCell ⟨rb, 5, none⟩ (.int .i64 r.l)).setCell ⟨rb, 6, none⟩ (.int .u64 r.gen)).setCell ⟨rb, 7, none⟩ (.int .u64 r.dur)).setCell ⟨rb, 8, none⟩ (.int .i64 r.stale)) := by
  obtain ⟨u, hw⟩ := k.wasb
  obtain ⟨q, hq⟩ := k.rootb
  have hne : rb ≠ wb := Blk.ne_ hq hw (by decide)
  have hq2 := hq.far (p := ⟨wb, 0, none⟩) hne v
  have h9 := set9r hq2 r
  have hw2 : Blk (w.setCell ⟨wb, 0, none⟩ v) wb 42 #[v] := hw.set_ 0 v
  exact Wq.of k hr hm hB (((Fr.refl (fun b => b = wb ∨ b = rb) w).setCell (p := ⟨wb, 0, none⟩) (.inl (.inl rfl)) v).trans' (h9.2.mono fun b _ e => .inr e)) (hw2.fr h9.2 (fun e => hne e.symm)) h9.1
theorem Wq.ofB {B : Nat} {v : Value} (k : Wh w0 w g h wb rb used lim l next r) (hr : Rw w B v m) (hm : m.map Rc.con = l.map Rc.con) (hB : wb < B ∧ rb < B) : Wq w0 ((((((((((w.setCell ⟨rb, 0, none⟩ (.int .i64 r.m)).setCell ⟨rb, 1, none⟩ (.int .i64 r.b)).setCell ⟨rb, 2, none⟩ (.int .i64 r.s)).setCell ⟨rb, 3, none⟩ (.int .i64 r.t)).setCell ⟨rb, 4, none⟩ (.int .i64 r.n)).setCell ⟨rb, 5, none⟩ (.int .i64 r.l)).setCell ⟨rb, 6, none⟩ (.int .u64 r.gen)).setCell ⟨rb, 7, none⟩ (.int .u64 r.dur)).setCell ⟨rb, 8, none⟩ (.int .i64 r.stale)).setCell ⟨wb, 0, none⟩ v) g h wb rb used lim l next r ∧ Kt w ((((((((((w.setCell ⟨rb, 0, none⟩ (.int .i64 r.m)).setCell ⟨rb, 1, none⟩ (.int .i64 r.b)).setCell ⟨rb, 2, none⟩ (.int .i64 r.s)).setCell ⟨rb, 3, none⟩ (.int .i64 r.t)).setCell ⟨rb, 4, none⟩ (.int .i64 r.n)).setCell ⟨rb, 5, none⟩ (.int .i64 r.l)).setCell ⟨rb, 6, none⟩ (.int .u64 r.gen)).setCell ⟨rb, 7, none⟩ (.int .u64 r.dur)).setCell ⟨rb, 8, none⟩ (.int .i64 r.stale)).setCell ⟨wb, 0, none⟩ v) := by
  obtain ⟨u, hw⟩ := k.wasb
  obtain ⟨q, hq⟩ := k.rootb
  have hne : rb ≠ wb := Blk.ne_ hq hw (by decide)
  have h9 := set9r hq r
  have hw2 := (hw.fr h9.2 (fun e => hne e.symm)).set_ 0 v
  exact Wq.of k hr hm hB ((h9.2.mono (T := fun b => b = wb ∨ b = rb) fun b _ e => .inr e).setCell (p := ⟨wb, 0, none⟩) (.inl (.inl rfl)) v) hw2 (h9.1.far (p := ⟨wb, 0, none⟩) hne v)
end
end Go.Proofs.Ytgcmfcdbgimnjaa
