/- Records as values. No further condition. -/
import Derived.Test.YtgcmfcdbgimnjaaByt
import Derived.Test.YtgcmfcdbgimnjaaCut
namespace Go.Proofs.Ytgcmfcdbgimnjaa
open Go.RowKit

/-- A record: its number, what it is about, which block, its bytes' slice. -/
structure Rc where
  seq : Int
  kind : Int
  lba : Int
  A : Option Addr
  raw : List Int
  c : Nat
abbrev Con := Int × Int × Int × List Int
def Rc.con (r : Rc) : Con := (r.seq, r.kind, r.lba, r.raw)
def rcv (r : Rc) : List Value := [.int .u64 r.seq, .int .i64 r.kind, .int .i64 r.lba, .slice r.A r.raw.length r.c]
def rcs (l : List Rc) : List Value := l.flatMap rcv
theorem rcv_len (r : Rc) : (rcv r).length = 4 := rfl
theorem rcs_len (l : List Rc) : (rcs l).length = l.length * 4 := flat_len rcv rcv_len l
theorem rcs_app (l m : List Rc) : rcs (l ++ m) = rcs l ++ rcs m := by simp [rcs]
theorem rcs_snoc (l : List Rc) (r : Rc) : rcs (l ++ [r]) = rcs l ++ rcv r := by simp [rcs]
theorem rcs_get (l : List Rc) (i k : Nat) (s : Rc) (hk : k < 4) (h : l[i]? = some s) : (rcs l)[i * 4 + k]? = (rcv s)[k]? := flat_get rcv rcv_len l i k s hk h
theorem rcs_drop (l : List Rc) (k : Nat) : (rcs l).drop (k * 4) = rcs (l.drop k) := flat_drop rcv rcv_len l k
theorem rcs_take (l : List Rc) (k : Nat) : (rcs l).take (k * 4) = rcs (l.take k) := flat_take rcv rcv_len l k
theorem rcv_one (r : Rc) : ∀ u ∈ rcv r, u.oneCell' = true := by
  intro u hu
  simp [rcv] at hu
  rcases hu with rfl | rfl | rfl | rfl <;> rfl
theorem rcs_one (l : List Rc) : ∀ u ∈ rcs l, u.oneCell' = true := by
  intro u hu
  obtain ⟨s, _, hs⟩ := List.mem_flatMap.1 hu
  exact rcv_one s u hs
/-- The cells of a record. -/
def RcAt (w : World) (p : Addr) (r : Rc) : Prop := w.cell? p = some (.int .u64 r.seq) ∧ w.cell? ⟨p.block, p.off + 1, none⟩ = some (.int .i64 r.kind) ∧ w.cell? ⟨p.block, p.off + 2, none⟩ = some (.int .i64 r.lba) ∧ w.cell? ⟨p.block, p.off + 3, none⟩ = some (.slice r.A r.raw.length r.c)
theorem rd_at {w : World} {A : Option Addr} {l : List Rc} (h : Rd w A (rcs l)) {i : Nat} {r : Rc} (hi : l[i]? = some r) : ∃ x, A = some x ∧ RcAt w (x.add (i * 4)) r := by
  obtain ⟨ad, e, a0⟩ := h (i * 4) _ ((rcs_get l i 0 r (by decide) hi).trans rfl)
  obtain ⟨_, e1, a1⟩ := h (i * 4 + 1) _ ((rcs_get l i 1 r (by decide) hi).trans rfl)
  rw [e] at e1
  injection e1 with e1; subst e1
  obtain ⟨_, e2, a2⟩ := h (i * 4 + 2) _ ((rcs_get l i 2 r (by decide) hi).trans rfl)
  rw [e] at e2
  injection e2 with e2; subst e2
  obtain ⟨_, e3, a3⟩ := h (i * 4 + 3) _ ((rcs_get l i 3 r (by decide) hi).trans rfl)
  rw [e] at e3
  injection e3 with e3; subst e3
  rw [add_field _ _ _ (by decide)] at a1 a2 a3
  exact ⟨_, e, a0, a1, a2, a3⟩
/-- The bytes of all these records are there. -/
def Hd (w : World) (l : List Rc) : Prop := ∀ r ∈ l, Rd w r.A (byv r.raw)
theorem Hd.later {w w' : World} {l : List Rc} (k : Hd w l) (h : Below w.heap.size w w') : Hd w' l := fun r hr => (k r hr).later h
theorem Hd.sub {w : World} {l m : List Rc} (k : Hd w l) (h : ∀ r ∈ m, r ∈ l) : Hd w m := fun r hr => k r (h r hr)
theorem Hd.dn {w : World} {l : List Rc} (k : Hd w l) (n : Nat) : Hd (w.drewN n) l := k.later (below_drewN (Below.refl _ _) n)
theorem own_form_ {w : World} {base : Nat} {e : TypeId} {size n : Nat} {v : Value} {xs : List Value} (k : w.ownsRow base e size v n xs) :
    ∃ A c, v = .slice A n c ∧ (∀ ad, A = some ad → ∃ h o, ad = ⟨h, o, none⟩) ∧ Rd w A xs ∧ n ≤ c := by
  rcases k.2 with ⟨rfl, rfl⟩ | ⟨g, cap, cur, rfl, _, _, h5, _⟩
  · exact ⟨none, 0, rfl, (fun _ e => by cases e), Rd.of_own k, Nat.le_refl _⟩
  · exact ⟨some ⟨g, 0, none⟩, cap, rfl, (fun _ e => ⟨g, 0, (Option.some.inj e).symm⟩), Rd.of_own k, h5⟩
theorem cut_row {w : World} {A : Option Addr} {l : List Rc} {n c : Nat} (hA : ∀ ad, A = some ad → ∃ h o, ad = ⟨h, o, none⟩) (h : Rd w A (rcs l)) (hc : l.length ≤ c) (hn : n ≤ l.length) :
    ∃ B, (∀ ad, B = some ad → ∃ h o, ad = ⟨h, o, none⟩) ∧ Rd w B (rcs (l.drop n)) ∧ ∀ (z : Int), z = n → ∀ W, (Instr.sliceAt 42 (.slice A l.length c) (some (.int .i64 z)) none none).run Try.prog W = .ok (.slice B (l.length - n) (c - n)) W := by
  refine ⟨if c = n then A else A.map (·.add (n * 4)), fun ad e => ?_, ?_, fun z hz W => cut_hi_ 42 4 (by kernel_rfl) (fun _ => by kernel_rfl) A l.length c n z hz hn W⟩
  · split at e
    · exact hA ad e
    · rcases A with _ | a
      · cases e
      · obtain ⟨b, o, rfl⟩ := hA a rfl
        injection e with e
        exact ⟨b, o + n * 4, e.symm.trans (by simp [Addr.add])⟩
  · rw [← rcs_drop]
    exact h.cut hA (rcs_len l) hc hn
end Go.Proofs.Ytgcmfcdbgimnjaa
