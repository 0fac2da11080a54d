/- Quanta: Turn of the program's vector, walked. -/
import Derived.Test.YtfdldlgnhdgmnaaQd
namespace Go.Proofs.Ytfdldlgnhdgmnaa
open Go.RowKit Go.Shelf
attribute [local go_sem] Oper.semAt_some

def turnL (m : QM) : List (Int × Int) → (Int × Int × Bool) × QM
  | [] => ((0, 0, false), m)
  | x :: r => if x.2 = 6 then turnL m r else if 0 < rd m.pe x.2 then turnL { m with pe := m.pe.set x.2.toNat (rd m.pe x.2 - 1) } r else ((x.1, x.2, true), { m with now := x.1 })
def QM.rounds (m : QM) : List (Int × Int) := (List.range 8).map fun k : Nat => ((m.now + 1 + k) % 8, rd m.pl ((m.now + 1 + k) % 8))
def QM.turn (m : QM) : (Int × Int × Bool) × QM := turnL m m.rounds
theorem seats_rounds (m : QM) (hm : m.Ok) : (seats m hm 8).map (·.1) = m.rounds := by simp [seats, QM.rounds, seatAt]

theorem round_ok (F : Fence) (n : Nat) (h28 : F.fn 28) (hro : F.round = none) (p : Option Addr) (w : World) :
    CallsIn F n Try.prog 28 #[.pointer p] w fun e w' => e = .returned (.func (.func 42) #[] #[.pointer (some ⟨w.heap.size, 0, none⟩)]) ∧ w' = w.alloc (.cells #[.pointer p] 22) := by
  refine callsIn_of_wp Try.func28 rfl h28 ?_ hro
  simp only [Try.ntmps28, List.size_toArray, List.length_cons, List.length_nil, Nat.reduceAdd, Nat.reduceSub, Array.replicate_succ, Array.replicate_zero, List.push_toArray, List.append_toArray, List.nil_append, List.cons_append]
  gi_wp2
  go_ret
  exact ⟨rfl, rfl⟩

theorem VecAt.kept {w w' b b1 b2 m} {row : Option Nat} (h : VecAt w b b1 b2 m) (hg : w.grownBy w' row) (hr : ∀ r, row = some r → ∃ o : Obj, w.heap[r]? = some o ∧ o.isCells = false) : VecAt w' b b1 b2 m :=
  ⟨blk_kept h.s hg hr, blk_kept h.p hg hr, blk_kept h.q hg hr, h.ok⟩
theorem new5 (w : World) (o0 o1 o2 o3 o4 : Obj) : (((((w.alloc o0).alloc o1).alloc o2).alloc o3).alloc o4).heap[w.heap.size]? = some o0 ∧ (((((w.alloc o0).alloc o1).alloc o2).alloc o3).alloc o4).heap[w.heap.size + 1]? = some o1 ∧
    (((((w.alloc o0).alloc o1).alloc o2).alloc o3).alloc o4).heap[w.heap.size + 1 + 1]? = some o2 ∧ (((((w.alloc o0).alloc o1).alloc o2).alloc o3).alloc o4).heap[w.heap.size + 1 + 1 + 1]? = some o3 ∧
    (((((w.alloc o0).alloc o1).alloc o2).alloc o3).alloc o4).heap[w.heap.size + 1 + 1 + 1 + 1]? = some o4 := by
  refine ⟨?_, ?_, ?_, ?_, ?_⟩ <;> simp only [alloc_get, World.size_alloc] <;> repeat (first | rw [if_pos trivial] | rw [if_neg (by omega)])

set_option maxRecDepth 100000 in
set_option maxHeartbeats 2000000 in
theorem Turn_in (F : Fence) (n : Nat) (h14 : F.fn 14) (h28 : F.fn 28) (h42 : F.fn 42) (hro : F.round = none) (hn : 3 ≤ n) {w : World} {b b1 b2 : Nat} {m : QM} (hv : VecAt w b b1 b2 m) :
    CallsIn F n Try.prog 14 #[.pointer (some ⟨b, 0, none⟩)] w (Left b b1 b2 w (.tuple #[.int .i64 m.turn.1.1, .int .u8 m.turn.1.2.1, .bool m.turn.1.2.2]) m.turn.2) := by
  have h1 : 1 ≤ n := by omega
  refine callsIn_of_wp_marks Try.func14 rfl h14 ?_ hro
  simp only [Try.ntmps14, List.size_toArray, List.length_cons, List.length_nil, Nat.reduceAdd, Nat.reduceSub, Array.replicate_succ, Array.replicate_zero, List.push_toArray, List.append_toArray, List.nil_append, List.cons_append]
  have HV := Lib.hid hv
  clear hv
  gi_wp2_with (gi_at_call 28; refine (round_ok F (n - 1) h28 hro _ _).mono ?_; rintro e w' ⟨rfl, rfl⟩)
  have hv := HV.out
  obtain ⟨W0, hW0⟩ : ∃ W0, ((((w.alloc (.cells #[.pointer (some ⟨b, 0, none⟩)] 22)).alloc (.cells #[.int .i64 0] 3)).alloc (.cells #[.int .u8 0] 5)).alloc (.cells #[.bool false] 4)).alloc (.cells #[.pointer (some ⟨b, 0, none⟩)] 22) = W0 := ⟨_, rfl⟩
  have hs0 : W0.heap.size = w.heap.size + 5 := by rw [← hW0]; simp
  obtain ⟨hB0, hB1, hB2, hB3, hB4⟩ := new5 w (.cells #[.pointer (some ⟨b, 0, none⟩)] 22) (.cells #[.int .i64 0] 3) (.cells #[.int .u8 0] 5) (.cells #[.bool false] 4) (.cells #[.pointer (some ⟨b, 0, none⟩)] 22)
  rw [hW0] at hB0 hB1 hB2 hB3 hB4
  have ho0 : Only [b, b1, b2] w W0 := by rw [← hW0]; exact (((((Only.refl _ w).alloc _).alloc _).alloc _).alloc _).alloc _
  have hv0 : VecAt W0 b b1 b2 m := by rw [← hW0]; exact ((((hv.alloc _).alloc _).alloc _).alloc _).alloc _
  have hlb := blk_lt hv.s
  have hlb1 := blk_lt hv.p
  have hlb2 := blk_lt hv.q
  rw [hW0]
  clear hW0
  refine wpIn_rangeFunc_ownG hro h1 (gf := 42) (lb := #[.pointer (some ⟨w.heap.size + 1 + 1 + 1 + 1, 0, none⟩)]) rfl h42 (enters_of Try.func42 (by kernel_rfl) rfl)
    (round_stops F (n - 1) h42 hro (by omega) hv0 (by rw [blk_cell hB4]; rfl)) KeepCells.trans (fun W l o o' _ h ho _ => KeepCells.put W l o o' h ho) (Below.refl _ _) (fun _ => rfl)
    (fun pre W => (∃ m', VecAt W b b1 b2 m' ∧ (∀ post, turnL m (pre.map (·.1) ++ post) = turnL m' post)) ∧ W.heap[w.heap.size]? = some (.cells #[.pointer (some ⟨b, 0, none⟩)] 22 (0, 0)) ∧
      W.heap[w.heap.size + 1]? = some (.cells #[.int .i64 0] 3 (0, 0)) ∧ W.heap[w.heap.size + 1 + 1]? = some (.cells #[.int .u8 0] 5 (0, 0)) ∧ W.heap[w.heap.size + 1 + 1 + 1]? = some (.cells #[.bool false] 4 (0, 0)) ∧ Only [b, b1, b2] w W)
    (fun c pre W => c = .ret ∧ (∃ i e m', VecAt W b b1 b2 m' ∧ (∀ post, turnL m (pre.map (·.1) ++ post) = ((i, e, true), m')) ∧
      W.heap[w.heap.size + 1]? = some (.cells #[.int .i64 i] 3 (0, 0)) ∧ W.heap[w.heap.size + 1 + 1]? = some (.cells #[.int .u8 e] 5 (0, 0)) ∧ W.heap[w.heap.size + 1 + 1 + 1]? = some (.cells #[.bool true] 4 (0, 0))) ∧ Only [b, b1, b2] w W)
    (fun s A B row hs hg hr => by
      obtain ⟨⟨m', h1, h2⟩, h3, h4, h5, h6, h7⟩ := hs
      have hr' := fun r e => (hr r e).2
      exact ⟨⟨m', h1.kept hg hr', h2⟩, blk_kept h3 hg hr', blk_kept h4 hg hr', blk_kept h5 hg hr', blk_kept h6 hg hr', h7.grown hg (fun r e => .inr (by have := (hr r e).1; omega))⟩)
    (fun c s A B row hs hg hr => by
      obtain ⟨h0, ⟨i, e, m', h1, h2, h4, h5, h6⟩, h7⟩ := hs
      have hr' := fun r e => (hr r e).2
      exact ⟨h0, ⟨i, e, m', h1.kept hg hr', h2, blk_kept h4 hg hr', blk_kept h5 hg hr', blk_kept h6 hg hr'⟩, h7.grown hg (fun r e => .inr (by have := (hr r e).1; omega))⟩)
    ⟨⟨m, hv0, fun _ => rfl⟩, hB0, hB1, hB2, hB3, ho0⟩
    (fun x => { tmps := #[.pointer (some ⟨b, 0, none⟩), .pointer (some ⟨w.heap.size, 0, none⟩), .pointer (some ⟨w.heap.size + 1, 0, none⟩), .pointer (some ⟨w.heap.size + 1 + 1, 0, none⟩), .pointer (some ⟨w.heap.size + 1 + 1 + 1, 0, none⟩), .int .i64 x.1.1, .int .u8 x.1.2, .pointer (some ⟨b, 0, none⟩), .bool false, .pointer (some ⟨b, 0, none⟩), .func (.func 42) #[] #[.pointer (some ⟨w.heap.size + 1 + 1 + 1 + 1, 0, none⟩)], .int .i64 x.1.1, .int .u8 x.1.2, undef, undef, undef, undef, undef, undef, undef, undef, undef, undef, undef, undef, undef, undef, undef, undef, undef, undef, undef, undef, undef, undef, undef, undef, undef, undef, undef], defers := [] }) ?assign ?body ?done ?stop
  case assign =>
    intro l x W K hK
    simp only [Seat.enc]
    gi_wp2
    exact hK
  case body =>
    rintro l pre ⟨⟨xi, xe⟩, hx0, hx1, hx2, hx3⟩ W ⟨⟨m', hm, hpost⟩, k0, k1, k2, k3, ko⟩ _
    dsimp only at *
    by_cases h6 : xe = 6
    · subst h6
      have Hm : Hid (∃ m', VecAt W b b1 b2 m' ∧ (∀ post, turnL m ((pre ++ [(⟨(xi, 6), hx0, hx1, hx2, hx3⟩ : Seat)]).map (·.1) ++ post) = turnL m' post)) :=
        ⟨m', hm, fun post => by
          rw [List.map_append, List.append_assoc, hpost]
          simp [turnL]⟩
      have Hk := Lib.hid (And.intro k0 (And.intro k1 (And.intro k2 (And.intro k3 ko))))
      clear hm hpost k0 k1 k2 k3 ko
      gi_wp2
      exact ⟨(KeepsOthers.refl W).from _, KeepCells.refl _ _, Hm.out, Hk.out⟩
    · have c0 := hm.c1
      have d0 : W.cell? ⟨w.heap.size, 0, none⟩ = some (.pointer (some ⟨b, 0, none⟩)) := by rw [blk_cell k0]; rfl
      have cq := hm.cq xe hx2 (by omega)
      have hxe : xe < 6 := by omega
      by_cases hp : 0 < rd m'.pe xe
      · have hr := hm.ok.per' xe hx2 hxe
        have Hm : Hid (∃ m'', VecAt (W.setCell ⟨b2, xe.toNat, none⟩ (.int .i64 (rd m'.pe xe - 1))) b b1 b2 m'' ∧ (∀ post, turnL m ((pre ++ [(⟨(xi, xe), hx0, hx1, hx2, hx3⟩ : Seat)]).map (·.1) ++ post) = turnL m'' post)) :=
          ⟨_, hm.setq xe.toNat _ ⟨by omega, by omega⟩, fun post => by
            rw [List.map_append, List.append_assoc, hpost]
            simp [turnL, h6, hp]⟩
        have fq := blk_frozen hm.q xe.toNat
        have Hk := Lib.hid (And.intro (blk_far k0 (p := ⟨b2, xe.toNat, none⟩) (by simp <;> omega) (.int .i64 (rd m'.pe xe - 1))) (And.intro (blk_far k1 (p := ⟨b2, xe.toNat, none⟩) (by simp <;> omega) (.int .i64 (rd m'.pe xe - 1)))
          (And.intro (blk_far k2 (p := ⟨b2, xe.toNat, none⟩) (by simp <;> omega) (.int .i64 (rd m'.pe xe - 1))) (And.intro (blk_far k3 (p := ⟨b2, xe.toNat, none⟩) (by simp <;> omega) (.int .i64 (rd m'.pe xe - 1))) (ko.setCell (p := ⟨b2, xe.toNat, none⟩) (by simp) (.int .i64 (rd m'.pe xe - 1)))))))
        have Hc : Hid (KeepCells (itT (w.heap.size + 1 + 1 + 1 + 1) b b1) W (W.setCell ⟨b2, xe.toNat, none⟩ (.int .i64 (rd m'.pe xe - 1)))) := KeepCells.setCell _ _ _ (fun p hp => by
          have n2 := hm.n2
          have n3 := hm.n3
          rcases hp with h | rfl | h
          · left; simp; omega
          · left; simpa using n2
          · left; simp; omega)
        clear hm hpost k0 k1 k2 k3 ko
        gi_wp2
        exact ⟨(KeepsOthers.setCell _ _ _).from _, Hc.out, Hm.out, Hk.out⟩
      · have d1 : W.cell? ⟨w.heap.size + 1, 0, none⟩ = some (.int .i64 0) := by rw [blk_cell k1]; rfl
        have d2 : W.cell? ⟨w.heap.size + 1 + 1, 0, none⟩ = some (.int .u8 0) := by rw [blk_cell k2]; rfl
        have d3 : W.cell? ⟨w.heap.size + 1 + 1 + 1, 0, none⟩ = some (.bool false) := by rw [blk_cell k3]; rfl
        have c2 := hm.c2
        have f1 := blk_frozen k1 0
        have f2 := blk_frozen k2 0
        have f3 := blk_frozen k3 0
        have f4 := blk_frozen hm.s 2
        have Hm : Hid (∀ W', W' = W.setCell ⟨b, 2, none⟩ (.int .i64 xi) → VecAt W' b b1 b2 { m' with now := xi }) := fun W' e => e ▸ hm.setn xi ⟨hx0, hx1⟩
        have Hp : Hid (∀ post, turnL m ((pre ++ [(⟨(xi, xe), hx0, hx1, hx2, hx3⟩ : Seat)]).map (·.1) ++ post) = ((xi, xe, true), { m' with now := xi })) := fun post => by
            rw [List.map_append, List.append_assoc, hpost]
            simp [turnL, h6, hp]
        have Hk := Lib.hid (And.intro k1 (And.intro k2 (And.intro k3 ko)))
        clear hm hpost k0 k1 k2 k3 ko
        gi_wp2
        have hm1 := Hm.out _ rfl
        obtain ⟨k1, k2, k3, ko⟩ := Hk.out
        have e1 := blk_far k1 (p := ⟨b, 2, none⟩) (by simp <;> omega) (.int .i64 xi)
        have e2 := blk_far k2 (p := ⟨b, 2, none⟩) (by simp <;> omega) (.int .i64 xi)
        have e3 := blk_far k3 (p := ⟨b, 2, none⟩) (by simp <;> omega) (.int .i64 xi)
        have e4 := blk_set e1 0 (.int .i64 xi)
        have e5 := blk_set (blk_far e2 (p := ⟨w.heap.size + 1, 0, none⟩) (by simp <;> omega) (.int .i64 xi)) 0 (.int .u8 xe)
        have e6 := blk_set (blk_far (blk_far e3 (p := ⟨w.heap.size + 1, 0, none⟩) (by simp <;> omega) (.int .i64 xi)) (p := ⟨w.heap.size + 1 + 1, 0, none⟩) (by simp <;> omega) (.int .u8 xe)) 0 (.bool true)
        refine ⟨((((KeepsOthers.setCell _ _ _).trans (KeepsOthers.setCell _ _ _)).trans (KeepsOthers.setCell _ _ _)).trans (KeepsOthers.setCell _ _ _)).from _, rfl, ⟨xi, xe, _, ?_, Hp.out, ?_, ?_, ?_⟩, ?_⟩
        · exact ((hm1.far (by simp <;> omega)).far (by simp <;> omega)).far (by simp <;> omega)
        · exact blk_far (blk_far e4 (p := ⟨w.heap.size + 1 + 1, 0, none⟩) (by simp <;> omega) _) (p := ⟨w.heap.size + 1 + 1 + 1, 0, none⟩) (by simp <;> omega) _
        · exact blk_far e5 (p := ⟨w.heap.size + 1 + 1 + 1, 0, none⟩) (by simp <;> omega) _
        · exact e6
        · exact (((ko.setCell (p := ⟨b, 2, none⟩) (by simp) _).setCell (p := ⟨w.heap.size + 1, 0, none⟩) (.inr (by simp)) _).setCell (p := ⟨w.heap.size + 1 + 1, 0, none⟩) (.inr (by simp <;> omega)) _).setCell (p := ⟨w.heap.size + 1 + 1 + 1, 0, none⟩) (.inr (by simp <;> omega)) _
  case done =>
    rintro D xs W hD rfl ⟨⟨m', hm, hpost⟩, k0, k1, k2, k3, ko⟩ hK
    have ht : m.turn = ((0, 0, false), m') := by
      unfold QM.turn; rw [← seats_rounds m hv0.ok]
      have := hpost []
      simpa [turnL] using this
    have Ht := Lib.hid ht
    have Hm := Lib.hid hm
    have Hk := Lib.hid (And.intro k1 (And.intro k2 (And.intro k3 ko)))
    have d1 : W.cell? ⟨w.heap.size + 1, 0, none⟩ = some (.int .i64 0) := by rw [blk_cell k1]; rfl
    have d2 : W.cell? ⟨w.heap.size + 1 + 1, 0, none⟩ = some (.int .u8 0) := by rw [blk_cell k2]; rfl
    have d3 : W.cell? ⟨w.heap.size + 1 + 1 + 1, 0, none⟩ = some (.bool false) := by rw [blk_cell k3]; rfl
    have f1 := blk_frozen k1 0
    have f2 := blk_frozen k2 0
    have f3 := blk_frozen k3 0
    clear hm hpost ht k0 k1 k2 k3 ko
    gi_wp2
    rw [Ht.out]
    obtain ⟨k1, k2, k3, ko⟩ := Hk.out
    have e1 := blk_set k1 0 (.int .i64 0)
    have e2 := blk_set (blk_far k2 (p := ⟨w.heap.size + 1, 0, none⟩) (by simp <;> omega) (.int .i64 0)) 0 (.int .u8 0)
    have e3 := blk_set (blk_far (blk_far k3 (p := ⟨w.heap.size + 1, 0, none⟩) (by simp <;> omega) (.int .i64 0)) (p := ⟨w.heap.size + 1 + 1, 0, none⟩) (by simp <;> omega) (.int .u8 0)) 0 (.bool false)
    have hK' := blk_far (blk_far (blk_far hK (p := ⟨w.heap.size + 1, 0, none⟩) (by simp <;> omega) (.int .i64 0)) (p := ⟨w.heap.size + 1 + 1, 0, none⟩) (by simp <;> omega) (.int .u8 0)) (p := ⟨w.heap.size + 1 + 1 + 1, 0, none⟩) (by simp <;> omega) (.bool false)
    refine ⟨by simp, .inl ⟨_, _, rfl, run_takeDeferred hK', ?_⟩⟩
    have g1 := blk_kept (blk_far (blk_far e1 (p := ⟨w.heap.size + 1 + 1, 0, none⟩) (by simp <;> omega) (.int .u8 0)) (p := ⟨w.heap.size + 1 + 1 + 1, 0, none⟩) (by simp <;> omega) (.bool false)) (grownBy_putObj' _ D (.deferred none)) (fun r e => by cases e; exact ⟨_, hK', rfl⟩)
    have g2 := blk_kept (blk_far e2 (p := ⟨w.heap.size + 1 + 1 + 1, 0, none⟩) (by simp <;> omega) (.bool false)) (grownBy_putObj' _ D (.deferred none)) (fun r e => by cases e; exact ⟨_, hK', rfl⟩)
    have g3 := blk_kept e3 (grownBy_putObj' _ D (.deferred none)) (fun r e => by cases e; exact ⟨_, hK', rfl⟩)
    refine ⟨.tuple #[.int .i64 0, .int .u8 0, .bool false], ?_, rfl, ?_, ?_⟩
    · have q1 := blk_cell g1 0
      have q2 := blk_cell g2 0
      have q3 := blk_cell g3 0
      simp at q1 q2 q3
      simp [results, Try.f14, go_sem, q1, q2, q3]
    · exact (((Hm.out.far (by simp <;> omega)).far (by simp <;> omega)).far (by simp <;> omega)).kept (grownBy_putObj' _ D (.deferred none)) (fun r e => by cases e; exact ⟨_, hK', rfl⟩)
    · exact (((ko.setCell (p := ⟨w.heap.size + 1, 0, none⟩) (.inr (by simp)) _).setCell (p := ⟨w.heap.size + 1 + 1, 0, none⟩) (.inr (by simp <;> omega)) _).setCell (p := ⟨w.heap.size + 1 + 1 + 1, 0, none⟩) (.inr (by simp <;> omega)) _).grown (grownBy_putObj' _ D (.deferred none)) (fun r e => by cases e; exact .inr (by omega))
  case stop =>
    rintro D c pre W hD ⟨suf, hsuf⟩ ⟨rfl, ⟨i, e, m', hm, hpost, k1, k2, k3⟩, ko⟩ hK
    have ht : m.turn = ((i, e, true), m') := by
      unfold QM.turn; rw [← seats_rounds m hv0.ok, ← hsuf, List.map_append]
      exact hpost _
    have Ht := Lib.hid ht
    have Hm := Lib.hid hm
    have Hk := Lib.hid (And.intro k1 (And.intro k2 (And.intro k3 ko)))
    clear hm hpost ht k1 k2 k3 ko
    gi_wp2
    rw [Ht.out]
    obtain ⟨k1, k2, k3, ko⟩ := Hk.out
    refine ⟨by simp, .inl ⟨_, _, rfl, run_takeDeferred hK, ?_⟩⟩
    have g1 := blk_kept k1 (grownBy_putObj' _ D (.deferred none)) (fun r e => by cases e; exact ⟨_, hK, rfl⟩)
    have g2 := blk_kept k2 (grownBy_putObj' _ D (.deferred none)) (fun r e => by cases e; exact ⟨_, hK, rfl⟩)
    have g3 := blk_kept k3 (grownBy_putObj' _ D (.deferred none)) (fun r e => by cases e; exact ⟨_, hK, rfl⟩)
    refine ⟨.tuple #[.int .i64 i, .int .u8 e, .bool true], ?_, rfl, ?_, ?_⟩
    · have q1 := blk_cell g1 0
      have q2 := blk_cell g2 0
      have q3 := blk_cell g3 0
      simp at q1 q2 q3
      simp [results, Try.f14, go_sem, q1, q2, q3]
    · exact Hm.out.kept (grownBy_putObj' _ D (.deferred none)) (fun r e => by cases e; exact ⟨_, hK, rfl⟩)
    · exact ko.grown (grownBy_putObj' _ D (.deferred none)) (fun r e => by cases e; exact .inr (by omega))
end Go.Proofs.Ytfdldlgnhdgmnaa
