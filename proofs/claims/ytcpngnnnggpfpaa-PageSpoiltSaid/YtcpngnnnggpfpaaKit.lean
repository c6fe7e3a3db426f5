/- Words on memory: a block known whole, a frame of blocks, slices that read as a list. Plain lemmas; no further condition. -/
import Derived.Test.YtcpngnnnggpfpaaProg
import Derived.Tactics
import Derived.Tactics2
import Derived.WalkKit
import Derived.WalkSpells
import Derived.WalkLawsBesides
import Derived.OwnWalk
import Derived.Defers
import Derived.Laws.Pointers
import Derived.Laws.Rows
import Derived.Laws.OwnMore
import Derived.Laws.MakeOwn
import Derived.Deep.QuietTactic
import Derived.BigQuiet
import Derived.Deep.Draws
import Derived.Deep.AppendLies
import Derived.Deep.RegionHeld3
import Derived.Deep.DrawnRows
import Derived.Maps.AppendAt
import Derived.Below
import Derived.Outline
import Derived.Lib.Hide
import Derived.IntWalk
import Derived.Deep.DeepCutAuto
namespace Go.Proofs.Ytcpngnnnggpfpaa
open Go.RowKit

/-! ### a block that is known whole -/
/-- Block g is just the cells cs of element type t, none frozen. -/
def Blk (w : World) (g : Nat) (t : TypeId) (cs : Array Value) : Prop := w.heap[g]? = some (.cells cs t (0, 0))

/-- But for the blocks of S, what was there is as it was. -/
structure Fr (S : Nat → Prop) (w w' : World) : Prop where
  os : w'.os = w.os
  tape : w'.tape = w.tape
  output : w'.output = w.output
  size : w.heap.size ≤ w'.heap.size
  block : ∀ b, b < w.heap.size → ¬ S b → w'.heap[b]? = w.heap[b]?

/-- The slice's cells, from an address on. -/
def Rd (w : World) (A : Option Addr) (xs : List Value) : Prop := ∀ j u, xs[j]? = some u → ∃ ad, A = some ad ∧ w.cell? (ad.add j) = some u

section
variable {w w' w2 : World} {g h : Nat} {t t' : TypeId} {cs cs' : Array Value} {S T : Nat → Prop}

theorem Blk.lt (k : Blk w g t cs) : g < w.heap.size := by
  rcases Nat.lt_or_ge g w.heap.size with hlt | hge
  · exact hlt
  · unfold Blk at k; rw [Array.getElem?_eq_none hge] at k; cases k
theorem Blk.cell (k : Blk w g t cs) (i : Nat) : w.cell? ⟨g, i, none⟩ = cs[i]? := cell_of_row w g i cs t (0, 0) k
theorem Blk.at_ (k : Blk w g t cs) {i : Nat} {u : Value} (hu : cs[i]? = some u) : w.cell? ⟨g, i, none⟩ = some u := (k.cell i).trans hu
theorem Blk.frozen (k : Blk w g t cs) (i : Nat) : w.frozen? ⟨g, i, none⟩ = false := by
  unfold Blk at k
  simp [World.frozen?, k]
theorem Blk.new (w : World) (t : TypeId) (cs : Array Value) : Blk (w.alloc (.cells cs t)) w.heap.size t cs := heap_alloc_new w _
theorem Blk.new_ (w : World) (t : TypeId) (cs : Array Value) {n : Nat} (hn : w.heap.size = n) : Blk (w.alloc (.cells cs t)) n t cs := by
  subst hn
  exact heap_alloc_new w _
theorem Blk.drew (k : Blk w g t cs) : Blk w.drew g t cs := k
theorem Blk.drewN (k : Blk w g t cs) (n : Nat) : Blk (w.drewN n) g t cs := k
theorem Blk.alloc (k : Blk w g t cs) (o : Obj) : Blk (w.alloc o) g t cs := (Below.heap_alloc w o g k.lt).trans k
theorem Blk.set_ (k : Blk w g t cs) (i : Nat) (u : Value) : Blk (w.setCell ⟨g, i, none⟩ u) g t (cs.setIfInBounds i u) := by
  unfold Blk at k ⊢
  simp [World.setCell, Array.getElem?_modify, k]
theorem Blk.far (k : Blk w g t cs) {p : Addr} (hp : g ≠ p.block) (u : Value) : Blk (w.setCell p u) g t cs := (Below.heap_setCell w p u g hp).trans k
theorem Blk.below {B : Nat} (k : Blk w g t cs) (hb : Below B w w') (hg : g < B) : Blk w' g t cs := (hb.block g hg).trans k
theorem Blk.later (k : Blk w g t cs) (hb : Below w.heap.size w w') : Blk w' g t cs := k.below hb k.lt
theorem Blk.cells1 {x : Value} (k : Blk w g t #[x]) : w.cell? ⟨g, 0, none⟩ = some x := k.cell 0
theorem Blk.cells2 {x y : Value} (k : Blk w g t #[x, y]) : w.cell? ⟨g, 0, none⟩ = some x ∧ w.cell? ⟨g, 1, none⟩ = some y := ⟨k.cell 0, k.cell 1⟩
theorem Blk.cells3 {x y z : Value} (k : Blk w g t #[x, y, z]) : w.cell? ⟨g, 0, none⟩ = some x ∧ w.cell? ⟨g, 1, none⟩ = some y ∧ w.cell? ⟨g, 2, none⟩ = some z := ⟨k.cell 0, k.cell 1, k.cell 2⟩
theorem Blk.grown {row : Option Nat} (k : Blk w g t cs) (hb : w.grownBy w' row) (hg : some g ≠ row) : Blk w' g t cs := (hb.block g k.lt hg).trans k
theorem Blk.fr (k : Blk w g t cs) (f : Fr S w w') (hg : ¬ S g) : Blk w' g t cs := (f.block g k.lt hg).trans k
theorem Blk.ne_ (k : Blk w g t cs) (k' : Blk w h t' cs') (hne : t ≠ t') : g ≠ h := by
  rintro rfl
  unfold Blk at k k'
  rw [k] at k'
  injection k' with k'
  injection k' with _ ht
  exact hne ht
theorem own_blk_ne {base : Nat} {e : TypeId} {size n : Nat} {v : Value} {xs : List Value} (k : w.ownsRow base e size v n xs) (hg : Blk w g t cs) (hne : e ≠ t) : v.ownBlock ≠ some g := by
  rcases k.2 with ⟨rfl, _⟩ | ⟨g', cap, cur, rfl, _, hh, _⟩
  · simp [Value.ownBlock]
  · intro he
    have : g' = g := by simpa [Value.ownBlock] using he
    subst this
    exact Blk.ne_ (t := e) hh hg hne rfl

/-! ### the frame -/
theorem Fr.refl (S : Nat → Prop) (w : World) : Fr S w w := ⟨rfl, rfl, rfl, Nat.le_refl _, fun _ _ _ => rfl⟩
theorem Fr.mono (f : Fr S w w') (k : ∀ b, b < w.heap.size → S b → T b) : Fr T w w' := ⟨f.os, f.tape, f.output, f.size, fun b hb hn => f.block b hb fun hs => hn (k b hb hs)⟩
theorem Fr.trans (f : Fr S w w') (k : Fr T w' w2) (hT : ∀ b, b < w.heap.size → T b → S b) : Fr S w w2 :=
  ⟨k.os.trans f.os, k.tape.trans f.tape, k.output.trans f.output, Nat.le_trans f.size k.size, fun b hb hn => (k.block b (Nat.lt_of_lt_of_le hb f.size) fun ht => hn (hT b hb ht)).trans (f.block b hb hn)⟩
theorem Fr.trans' (f : Fr S w w') (k : Fr S w' w2) : Fr S w w2 := f.trans k fun _ _ h => h
theorem Fr.drew (f : Fr S w w') : Fr S w w'.drew := ⟨f.os, f.tape, f.output, f.size, f.block⟩
theorem Fr.drewN (f : Fr S w w') (n : Nat) : Fr S w (w'.drewN n) := ⟨f.os, f.tape, f.output, f.size, f.block⟩
theorem Fr.of_below {B : Nat} (k : Below B w w') (hS : ∀ b, b < w.heap.size → B ≤ b → S b) : Fr S w w' :=
  ⟨k.os, k.tape, k.output, k.size, fun b hb hn => k.block b (by
    rcases Nat.lt_or_ge b B with h1 | h1
    · exact h1
    · exact absurd (hS b hb h1) hn)⟩
theorem Fr.below {B : Nat} (f : Fr S w w2) (k : Below B w2 w') (hS : ∀ b, b < w.heap.size → B ≤ b → S b) : Fr S w w' :=
  f.trans (T := fun b => B ≤ b) (Fr.of_below k fun _ _ h => h) hS
theorem Fr.later (f : Fr S w w2) (k : Below w2.heap.size w2 w') : Fr S w w' := f.below k fun b hb h1 => absurd (Nat.lt_of_lt_of_le hb f.size) (by omega)
theorem Fr.alloc (f : Fr S w w') (o : Obj) : Fr S w (w'.alloc o) := f.later ((Below.refl _ _).alloc (Nat.le_refl _) o)
theorem Fr.setCell (f : Fr S w w') {p : Addr} (hp : S p.block ∨ w.heap.size ≤ p.block) (u : Value) : Fr S w (w'.setCell p u) :=
  ⟨f.os, f.tape, f.output, by simpa [World.setCell] using f.size, fun b hb hn => (Below.heap_setCell w' p u b (by
    rintro rfl
    rcases hp with hp | hp
    · exact hn hp
    · omega)).trans (f.block b hb hn)⟩
theorem Fr.grown {row : Option Nat} (f : Fr S w w2) (k : w2.grownBy w' row) (hr : ∀ b, row = some b → S b ∨ w.heap.size ≤ b) : Fr S w w' :=
  ⟨k.os.trans f.os, k.tape.trans f.tape, k.output.trans f.output, Nat.le_trans f.size k.size, fun b hb hn => (k.block b (Nat.lt_of_lt_of_le hb f.size) fun e => by
    rcases hr b e.symm with h1 | h1
    · exact hn h1
    · omega).trans (f.block b hb hn)⟩
theorem Fr.toBelow {B : Nat} (f : Fr S w w') (hB : B ≤ w.heap.size) (hS : ∀ b, b < B → ¬ S b) : Below B w w' := ⟨f.os, f.tape, f.output, f.size, fun b hb => f.block b (by omega) (hS b hb)⟩
theorem Fr.cell (f : Fr S w w') {p : Addr} {u : Value} (hc : w.cell? p = some u) (hp : ¬ S p.block) : w'.cell? p = some u :=
  (World.cell?_of_block (f.block p.block (World.block_lt_of_cell? w p hc) hp)).trans hc
theorem ownsRow_fr {base : Nat} {e : TypeId} {size n : Nat} {v : Value} {xs : List Value} (k : w.ownsRow base e size v n xs) (f : Fr S w w') (hv : ∀ b, v.ownBlock = some b → ¬ S b) : w'.ownsRow base e size v n xs := by
  refine ⟨k.1, ?_⟩
  rcases k.2 with h1 | ⟨g, cap, cur, rfl, hb, hh, r⟩
  · exact .inl h1
  · have hk : Blk w g e cur := hh
    exact .inr ⟨g, cap, cur, rfl, hb, hk.fr f (hv g rfl), r⟩
theorem below_drewN {B : Nat} {a w : World} (h : Below B a w) (n : Nat) : Below B a (w.drewN n) := ⟨h.os, h.tape, h.output, h.size, h.block⟩

/-! ### a slice that reads as a list -/
theorem block_of_add (a : Addr) (n : Nat) : (a.add n).block = a.block := by unfold Addr.add; split <;> rfl
theorem add_of_add (a : Addr) (i j : Nat) : (a.add i).add j = a.add (i + j) := by
  unfold Addr.add
  by_cases hi : i = 0 <;> by_cases hj : j = 0 <;> simp [hi, hj, Nat.add_assoc]
theorem add_zero_addr (g i j : Nat) : (⟨g, i, none⟩ : Addr).add j = ⟨g, i + j, none⟩ := by
  unfold Addr.add
  by_cases hj : j = 0 <;> simp [hj]
variable {A : Option Addr} {xs : List Value}
theorem Rd.nil (w : World) (A : Option Addr) : Rd w A [] := fun j u h => by simp at h
theorem Rd.fr (k : Rd w A xs) (f : Fr S w w') (hA : ∀ ad, A = some ad → ¬ S ad.block) : Rd w' A xs := fun j u hu => by
  obtain ⟨ad, e, hc⟩ := k j u hu
  exact ⟨ad, e, f.cell hc (by rw [block_of_add]; exact hA ad e)⟩
theorem Rd.below {B : Nat} (k : Rd w A xs) (hb : Below B w w') (hA : ∀ ad, A = some ad → ad.block < B) : Rd w' A xs := fun j u hu => by
  obtain ⟨ad, e, hc⟩ := k j u hu
  exact ⟨ad, e, (hb.cell (by rw [block_of_add]; exact hA ad e)).trans hc⟩
theorem Rd.later (k : Rd w A xs) (hb : Below w.heap.size w w') : Rd w' A xs := fun j u hu => by
  obtain ⟨ad, e, hc⟩ := k j u hu
  exact ⟨ad, e, (hb.cell (World.block_lt_of_cell? w _ hc)).trans hc⟩
theorem Rd.alloc (k : Rd w A xs) (o : Obj) : Rd (w.alloc o) A xs := k.later ((Below.refl _ _).alloc (Nat.le_refl _) o)
theorem Rd.of_blk (k : Blk w g t cs) (off n : Nat) : Rd w (some ⟨g, off, none⟩) ((cs.toList.drop off).take n) := fun j u hu => by
  refine ⟨_, rfl, ?_⟩
  rw [add_zero_addr, k.cell]
  have hj : j < n := by
    rcases Nat.lt_or_ge j n with h1 | h1
    · exact h1
    · rw [List.getElem?_eq_none (by simp; omega)] at hu; cases hu
  rw [List.getElem?_take_of_lt hj, List.getElem?_drop] at hu
  rw [← Array.getElem?_toList]; exact hu
theorem Rd.of_own {base : Nat} {e : TypeId} {size n c : Nat} (k : w.ownsRow base e size (.slice A n c) n xs) : Rd w A xs := fun j u hu => by
  have hn : 0 < n := by
    rcases Nat.eq_zero_or_pos n with h0 | h0
    · subst h0
      have h1 := k.1
      have hx : xs = [] := List.eq_nil_of_length_eq_zero (by simpa using h1)
      subst hx
      simp at hu
    · exact h0
  obtain ⟨g, cap, hv, _, hlt⟩ := k.form hn
  have hA : A = some ⟨g, 0, none⟩ := by injection hv
  subst hA
  exact ⟨_, rfl, k.cells (g := g) rfl j u hu⟩
end

/-! ### max and min of two whole numbers, kept behind names -/
def mxI (a b : Int) : Int := if a < b then b else a
def mnI (a b : Int) : Int := if b < a then b else a
theorem go_max2 (k k' : IntKind) (x y : Int) : Builtin.max2 (.int k x) (.int k' y) = pure (.int k (mxI x y)) := by simp only [Builtin.max2, gt_iff_lt, mxI]
theorem go_min2 (k k' : IntKind) (x y : Int) : Builtin.min2 (.int k x) (.int k' y) = pure (.int k (mnI x y)) := by simp only [Builtin.min2, mnI]
theorem go_max_two (ats : Array TypeId) (ty : TypeId) (a b : Value) : Builtin.max_ ats ty #[a, b] = (Builtin.max2 a b >>= fun s => pure s) := by simp only [Builtin.max_, List.foldlM_cons, List.foldlM_nil]
theorem go_min_two (ats : Array TypeId) (ty : TypeId) (a b : Value) : Builtin.min_ ats ty #[a, b] = (Builtin.min2 a b >>= fun s => pure s) := by simp only [Builtin.min_, List.foldlM_cons, List.foldlM_nil]

/-! ### make -/
theorem made_list (z : Array Value) (n : Nat) : (madeCells z (n * z.size)).toList = (List.replicate n z.toList).flatten := by
  induction n with
  | zero => simp [madeCells]
  | succ n ih =>
    simp only [madeCells, Array.toList_map, Array.toList_range] at ih ⊢
    rw [Nat.succ_mul, List.range_add, List.map_append, ih, List.replicate_succ', List.flatten_append]
    congr 1
    simp only [List.map_map, List.flatten_cons, List.flatten_nil, List.append_nil]
    apply List.ext_getElem?
    intro j
    rcases Nat.lt_or_ge j z.size with h | h
    · rw [List.getElem?_map, List.getElem?_range h]
      simp [Nat.mod_eq_of_lt h, h]
    · rw [List.getElem?_eq_none (by simpa using h), List.getElem?_eq_none (by simpa using h)]
/-- make([]T, n): a new block, n times the zero value. -/
theorem run_make_zeros {P : Program} (t e : TypeId) (i : TypeInfo) (z : Value) (size bytes : Nat) (ht : P.underlying t = some (.slice e)) (hi : P.info? e = some i) (hz : i.zero = some z)
    (hsz : i.size = size) (hby : i.bytes = bytes) (hzs : z.cells.size = size) (kl kc : IntKind) (n : Nat) (hbytes : bytes * n ≤ 281474976710656) (h63 : n ≤ 9223372036854775807) (w : World) :
    (Instr.makeSlice t (.int kl (n : Int)) (.int kc (n : Int))).run P w = .ok (.slice (some ⟨w.heap.size, 0, none⟩) n n) (w.alloc (.cells (List.replicate n z.cells.toList).flatten.toArray e)) := by
  have hb : (i.bytes : Int) * (n : Int) ≤ 281474976710656 := by
    subst hby
    have h : ((i.bytes * n : Nat) : Int) ≤ 281474976710656 := by omega
    rwa [Int.natCast_mul] at h
  have hr := run_make (P := P) w t e i z ht hi hz kl kc n n (by omega) (by omega) hb (by omega)
  simp only [Int.toNat_natCast] at hr
  rw [hr, hsz, ← hzs, ← made_list, Array.toArray_toList]

/-! ### append onto a row of the call's own, the source nil, empty or not -/
section
variable {P : Program} (w : World)
theorem run_append_of_nil (base : Nat) (t ty e : TypeId) (i : TypeInfo) (size : Nat) (ht : P.underlying t = some (.slice e)) (hi : P.info? e = some i)
    (v : Value) (n : Nat) (xs : List Value) (hown : w.ownsRow base e size v n xs) (c : Nat) : (Builtin.append_ #[t, t] ty #[v, .slice none 0 c]).run P w = .ok v w := by
  rcases hown.2 with ⟨rfl, rfl⟩ | ⟨g, cap, cur, rfl, _, _, hnc, _⟩
  · simp [Builtin.append_, run_underlying ht, sizeOf, typeInfo, hi, Builtin.lenOf, Builtin.firstCells]
  · simp [Builtin.append_, run_underlying ht, sizeOf, typeInfo, hi, Builtin.lenOf, Builtin.firstCells, hnc, storeCells]

theorem run_append_any (base : Nat) (t ty e : TypeId) (i : TypeInfo) (z : Value) (size bytes : Nat) (ht : P.underlying t = some (.slice e)) (hi : P.info? e = some i) (hz : i.zero = some z)
    (hsize : i.size = size) (hby : i.bytes = bytes) (hzs : z.cells.size = size) (hsz : 0 < size)
    (v : Value) (n : Nat) (xs : List Value) (hown : w.ownsRow base e size v n xs)
    (A : Option Addr) (m c : Nat) (news : List Value) (hl : news.length = m * size) (hr : Rd w A news) (h1 : ∀ u ∈ news, u.oneCell' = true)
    (h63 : n + m ≤ maxLen) (hbytes : (n + m) * bytes ≤ 140737488355328) (hbase : base ≤ w.heap.size) :
    ∃ v' w', (Builtin.append_ #[t, t] ty #[v, .slice A m c]).run P w = .ok v' w' ∧ w'.ownsRow base e size v' (n + m) (xs ++ news) ∧ w.grownBy w' v.ownBlock ∧
      (v'.ownBlock = v.ownBlock ∨ v'.ownBlock = some w.heap.size) := by
  rcases A with _ | ad
  · have hn : news = [] := by
      cases news with
      | nil => rfl
      | cons a l =>
        obtain ⟨ad, e, _⟩ := hr 0 a rfl
        cases e
    subst hn
    have hm : m = 0 := by
      rcases Nat.eq_zero_or_pos m with h0 | h0
      · exact h0
      · have := Nat.mul_pos h0 hsz
        simp at hl
        omega
    subst hm
    exact ⟨v, w, run_append_of_nil w base t ty e i size ht hi v n xs hown c, by simpa using hown, World.grownBy.refl w _, .inl rfl⟩
  · have hcells : ∀ j u, news[j]? = some u → w.cell? (ad.add j) = some u := by
      intro j u hu
      obtain ⟨ad', h, hc⟩ := hr j u hu
      injection h with h
      subst h
      exact hc
    obtain ⟨v', w', hrun, h2, h3, _, h5⟩ := run_append_own_at (P := P) w base t ty e i z size bytes ht hi hz hsize hby hzs hsz v n xs hown ad m c news hl hcells h1 h63 hbytes hbase
    exact ⟨v', w', hrun, h2, h3, h5⟩

theorem wp_append_any {o : Oper} {a : Act} {K : Act → World → Prop} {Q : Exit → Act → World → Prop} (s x : Operand) (t : TypeId)
    (ho : o.op = .call { callee := .builtin .append, args := #[s, x], argTypes := #[t, t] })
    (base : Nat) (e : TypeId) (i : TypeInfo) (z : Value) (size bytes : Nat) (ht : P.underlying t = some (.slice e)) (hi : P.info? e = some i) (hz : i.zero = some z)
    (hsize : i.size = size) (hby : i.bytes = bytes) (hzs : z.cells.size = size) (hsz : 0 < size)
    (v : Value) (n : Nat) (xs : List Value) (hs : a.eval s = v) (hown : w.ownsRow base e size v n xs)
    (A : Option Addr) (m c : Nat) (news : List Value) (hx : a.eval x = .slice A m c) (hl : news.length = m * size) (hr : Rd w A news) (h1 : ∀ u ∈ news, u.oneCell' = true)
    (h63 : n + m ≤ maxLen) (hbytes : (n + m) * bytes ≤ 140737488355328) (hbase : base ≤ w.heap.size)
    (h : ∀ v' w', w'.ownsRow base e size v' (n + m) (xs ++ news) → w.grownBy w' v.ownBlock → (v'.ownBlock = v.ownBlock ∨ v'.ownBlock = some w.heap.size) → K (a.put o.dst v') w') : o.wp P a w K Q := by
  obtain ⟨v', w', hrun, h2, h3, h4⟩ := run_append_any (P := P) w base t o.type e i z size bytes ht hi hz hsize hby hzs hsz v n xs hown A m c news hl hr h1 h63 hbytes hbase
  unfold Oper.wp execOp
  simp only [ho, resolve, invoke, builtin, Sem.run_bind, Sem.run_pure, Result.andThen_ok, List.map_toArray, List.map_cons, List.map_nil, hs, hx, hrun]
  exact h v' w' h2 h3 h4

theorem wpList_append_any {ops : Array Oper} {rest : List Oper} {o : Oper} {a : Act} {Q : Exit → Act → World → Prop} (hgd : o.guard = none) (s x : Operand) (t : TypeId)
    (ho : o.op = .call { callee := .builtin .append, args := #[s, x], argTypes := #[t, t] })
    (base : Nat) (e : TypeId) (i : TypeInfo) (z : Value) (size bytes : Nat) (ht : P.underlying t = some (.slice e)) (hi : P.info? e = some i) (hz : i.zero = some z)
    (hsize : i.size = size) (hby : i.bytes = bytes) (hzs : z.cells.size = size) (hsz : 0 < size)
    (v : Value) (n : Nat) (xs : List Value) (hs : a.eval s = v) (hown : w.ownsRow base e size v n xs)
    (A : Option Addr) (m c : Nat) (news : List Value) (hx : a.eval x = .slice A m c) (hl : news.length = m * size) (hr : Rd w A news) (h1 : ∀ u ∈ news, u.oneCell' = true)
    (h63 : n + m ≤ maxLen) (hbytes : (n + m) * bytes ≤ 140737488355328) (hbase : base ≤ w.heap.size)
    (h : ∀ v' w', w'.ownsRow base e size v' (n + m) (xs ++ news) → w.grownBy w' v.ownBlock → (v'.ownBlock = v.ownBlock ∨ v'.ownBlock = some w.heap.size) → wpList P ops Q rest (a.put o.dst v') w') : wpList P ops Q (o :: rest) a w :=
  wpList_plain hgd fun _ hK => wp_append_any w s x t ho base e i z size bytes ht hi hz hsize hby hzs hsz v n xs hs hown A m c news hx hl hr h1 h63 hbytes hbase fun v' w' h2 h3 h4 => hK _ _ (h v' w' h2 h3 h4)

theorem step_append_any {ops : Array Oper} {o : Oper} {a : Act} {K : Act → World → Prop} {Q : Exit → Act → World → Prop} {E : Prop} (hgd : o.guard = none) (s x : Operand) (t : TypeId)
    (ho : o.op = .call { callee := .builtin .append, args := #[s, x], argTypes := #[t, t] })
    (base : Nat) (e : TypeId) (i : TypeInfo) (z : Value) (size bytes : Nat) (ht : P.underlying t = some (.slice e)) (hi : P.info? e = some i) (hz : i.zero = some z)
    (hsize : i.size = size) (hby : i.bytes = bytes) (hzs : z.cells.size = size) (hsz : 0 < size)
    (v : Value) (n : Nat) (xs : List Value) (hs : a.eval s = v) (hown : w.ownsRow base e size v n xs)
    (A : Option Addr) (m c : Nat) (news : List Value) (hx : a.eval x = .slice A m c) (hl : news.length = m * size) (hr : Rd w A news) (h1 : ∀ u ∈ news, u.oneCell' = true)
    (h63 : n + m ≤ maxLen) (hbytes : (n + m) * bytes ≤ 140737488355328) (hbase : base ≤ w.heap.size)
    (h : ∀ v' w', w'.ownsRow base e size v' (n + m) (xs ++ news) → w.grownBy w' v.ownBlock → (v'.ownBlock = v.ownBlock ∨ v'.ownBlock = some w.heap.size) → K (a.put o.dst v') w') :
    if Region.wanted o (yielded ops a.tmps) = true then Oper.wp P o a w K Q else E := by
  have hw : Region.wanted o (yielded ops a.tmps) = true := by simp [Region.wanted, hgd]
  rw [if_pos hw]
  exact wp_append_any w s x t ho base e i z size bytes ht hi hz hsize hby hzs hsz v n xs hs hown A m c news hx hl hr h1 h63 hbytes hbase h
end
theorem Rd.one (w : World) (t : TypeId) (u : Value) {n : Nat} (hn : w.heap.size = n) : Rd (w.alloc (.cells #[u] t)) (some ⟨n, 0, none⟩) [u] := by
  have := Rd.of_blk (Blk.new_ w t #[u] hn) 0 1
  simpa using this
theorem own_form {w : World} {base : Nat} {e : TypeId} {size n : Nat} {v : Value} {xs : List Value} (k : w.ownsRow base e size v n xs) :
    ∃ A c, v = .slice A n c ∧ (∀ ad, A = some ad → ∃ h, ad = ⟨h, 0, none⟩) ∧ Rd w A xs := by
  have k' := k
  rcases k.2 with ⟨rfl, rfl⟩ | ⟨g, cap, cur, rfl, _⟩
  · exact ⟨none, 0, rfl, (fun _ e => by cases e), Rd.of_own k'⟩
  · exact ⟨some ⟨g, 0, none⟩, cap, rfl, (fun _ e => ⟨g, (Option.some.inj e).symm⟩), Rd.of_own k'⟩
theorem own_block {w : World} {base : Nat} {e : TypeId} {size n : Nat} {v : Value} {xs : List Value} (k : w.ownsRow base e size v n xs) (hn : 0 < n) :
    ∃ g cap cur, v = .slice (some ⟨g, 0, none⟩) n cap ∧ base ≤ g ∧ Blk w g e cur ∧ n * size ≤ cur.size ∧ cur.toList.take (n * size) = xs := by
  rcases k.2 with ⟨rfl, rfl⟩ | ⟨g, cap, cur, rfl, hb, hh, hnc, hm, hs, hx⟩
  · omega
  · exact ⟨g, cap, cur, rfl, hb, hh, by rw [hs]; exact Nat.mul_le_mul_right _ hnc, hx⟩
theorem own_own_ne {w : World} {b1 b2 : Nat} {e1 e2 : TypeId} {s1 s2 n1 n2 : Nat} {v1 v2 : Value} {x1 x2 : List Value} (k1 : w.ownsRow b1 e1 s1 v1 n1 x1) (k2 : w.ownsRow b2 e2 s2 v2 n2 x2) (hne : e1 ≠ e2) : ∀ b, v1.ownBlock = some b → v2.ownBlock ≠ some b := by
  intro b hb
  rcases k1.2 with ⟨rfl, _⟩ | ⟨g, cap, cur, rfl, _, hh, _⟩
  · simp [Value.ownBlock] at hb
  · have hg : g = b := by simpa [Value.ownBlock] using hb
    subst hg
    exact own_blk_ne (cs := cur) (t := e1) k2 hh (Ne.symm hne)
theorem ownsRow_later {W W' : World} {base : Nat} {e : TypeId} {size n : Nat} {v : Value} {xs : List Value} (k : W.ownsRow base e size v n xs) (hb : Below W.heap.size W W') : W'.ownsRow base e size v n xs :=
  ownsRow_fr (S := fun b => W.heap.size ≤ b) k (Fr.of_below hb fun _ _ h => h) fun b hv => by have := (k.lt b hv).2; omega
theorem ownsRow_empty (w : World) (base : Nat) (e : TypeId) (size : Nat) (g cap : Nat) (cur : Array Value) (hg : base ≤ g) (hb : w.heap[g]? = some (.cells cur e (0, 0))) (hm : cap ≤ maxLen) (hs : cur.size = cap * size) :
    w.ownsRow base e size (.slice (some ⟨g, 0, none⟩) 0 cap) 0 [] := ⟨by simp, .inr ⟨g, cap, cur, rfl, hg, hb, Nat.zero_le _, hm, hs, by simp⟩⟩
/-- What append leaves, by blocks: of what was there only the row itself may have turned. -/
theorem Fr.of_grown {w w' : World} {row : Option Nat} (k : w.grownBy w' row) : Fr (fun b => row = some b) w w' :=
  ⟨k.os, k.tape, k.output, k.size, fun b hb hn => k.block b hb fun e => hn e.symm⟩
theorem below_of_grown {B : Nat} {w w' : World} {row : Option Nat} (k : w.grownBy w' row) (hB : B ≤ w.heap.size) (hr : ∀ b, row = some b → B ≤ b) : Below B w w' := (Below.refl B w).grown k hB hr
end Go.Proofs.Ytcpngnnnggpfpaa
