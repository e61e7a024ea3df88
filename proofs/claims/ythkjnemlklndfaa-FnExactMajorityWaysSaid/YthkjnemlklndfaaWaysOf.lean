/- The ways of all numbers of experts: the program's function and the reference's. -/
import Derived.Test.YthkjnemlklndfaaChance
namespace Go.Proofs.Ythkjnemlklndfaa
open Go.RowKit Go.ChangeShapes Go.WideShapes

/-- The row of ways for the first i experts. -/
def waysL (zs : List Int) (i : Nat) : List Int := (List.range (i + 1)).map (wayF zs i)
theorem waysL_len (zs : List Int) (i : Nat) : (waysL zs i).length = i + 1 := by simp [waysL]
theorem waysL_nth {zs : List Int} {i k : Nat} (h : k ≤ i) : nth (waysL zs i) k = wayF zs i k := by
  simp [nth, waysL, List.getD_eq_getElem?_getD, Nat.lt_succ_of_le h]
theorem wayF_succ (zs : List Int) (i k : Nat) : wayF zs (i + 1) k = wayF zs i k * (1000 - nth zs i) + (if 0 < k then wayF zs i (k - 1) * nth zs i else 0) := by
  cases k with
  | zero => simp [wayF]
  | succ k => simp [wayF]
/-- What the program's new row holds behind c steps. -/
def moreF (zs : List Int) (i c j : Nat) : Int := (if j < c then wayF zs i j * (1000 - nth zs i) else 0) + (if 0 < j ∧ j ≤ c then wayF zs i (j - 1) * nth zs i else 0)
theorem moreF_zero (zs : List Int) (i j : Nat) : moreF zs i 0 j = 0 := by
  unfold moreF
  rw [if_neg (by omega), if_neg (by omega)]; rfl
theorem moreF_all (zs : List Int) (i j : Nat) (h : j ≤ i + 1) : moreF zs i (i + 1) j = wayF zs (i + 1) j := by
  rw [wayF_succ]
  unfold moreF
  by_cases h1 : j < i + 1
  · rw [if_pos h1]
    by_cases h2 : 0 < j
    · rw [if_pos ⟨h2, by omega⟩, if_pos h2]
    · rw [if_neg (by omega), if_neg h2]
  · obtain rfl : j = i + 1 := by omega
    rw [if_neg h1, if_pos ⟨by omega, by omega⟩, if_pos (by omega), wayF_zero zs i (i + 1) (by omega)]; simp
theorem moreF_at (zs : List Int) (i c : Nat) : moreF zs i c c = (if 0 < c then wayF zs i (c - 1) * nth zs i else 0) ∧ moreF zs i c (c + 1) = 0 ∧
    moreF zs i (c + 1) c = moreF zs i c c + wayF zs i c * (1000 - nth zs i) ∧ moreF zs i (c + 1) (c + 1) = wayF zs i c * nth zs i := by
  unfold moreF
  refine ⟨?_, ?_, ?_, ?_⟩
  · rw [if_neg (Nat.lt_irrefl c)]
    by_cases h : 0 < c
    · rw [if_pos ⟨h, Nat.le_refl c⟩, if_pos h, Int.zero_add]
    · rw [if_neg (by omega), if_neg h, Int.zero_add]
  · rw [if_neg (by omega), if_neg (by omega)]; rfl
  · rw [if_pos (by omega), if_neg (Nat.lt_irrefl c)]
    by_cases h : 0 < c
    · rw [if_pos ⟨h, by omega⟩, if_pos ⟨h, Nat.le_refl c⟩]; omega
    · rw [if_neg (by omega), if_neg (by omega)]; omega
  · rw [if_neg (by omega), if_pos ⟨by omega, by omega⟩, Int.zero_add]; rfl
theorem moreF_other (zs : List Int) (i c j : Nat) (h1 : j ≠ c) (h2 : j ≠ c + 1) : moreF zs i (c + 1) j = moreF zs i c j := by
  unfold moreF
  by_cases h : j < c
  · rw [if_pos h, if_pos (by omega : j < c + 1)]
    by_cases g : 0 < j
    · rw [if_pos ⟨g, by omega⟩, if_pos ⟨g, by omega⟩]
    · rw [if_neg (by omega), if_neg (by omega)]
  · rw [if_neg h, if_neg (by omega : ¬ j < c + 1), if_neg (by omega), if_neg (by omega)]
/-- The new row's step. -/
theorem more_step {w : World} {g : Nat} {zs : List Int} {i c : Nat} {t : TypeId} (h : w.rowIs g t (i + 2) (fun j => .int .i64 (moreF zs i c j))) :
    ((w.setCell ⟨g, c, none⟩ (.int .i64 (moreF zs i c c + wayF zs i c * (1000 - nth zs i)))).setCell ⟨g, c + 1, none⟩ (.int .i64 (wayF zs i c * nth zs i))).rowIs g t (i + 2) (fun j => .int .i64 (moreF zs i (c + 1) j)) := by
  obtain ⟨_, _, e2, e3⟩ := moreF_at zs i c
  refine ((h.set c _).set (c + 1) _).congr fun j _ => ?_
  by_cases h1 : j = c + 1
  · subst h1; rw [if_pos rfl, e3]
  · rw [if_neg h1]
    by_cases h0 : j = c
    · subst h0; rw [if_pos rfl, e2]
    · rw [if_neg h0, moreF_other zs i c j h0 h1]

theorem rightWays_c (a : Option Addr) (cap : Nat) (zs : List Int) (w : World) (h : Nums .i64 w a zs) (hn : zs.length ≤ 5) (hs : Sure zs) :
    Calls Try.prog 76 #[.slice a zs.length cap] w fun e w' => ∃ b : Nat, e = .returned (.slice (some ⟨b, 0, none⟩) (zs.length + 1) (zs.length + 1)) ∧ (Nums .i64 w' (some ⟨b, 0, none⟩) (waysL zs zs.length) ∧ Below w.heap.size w w') := by
  go_enter Try.func76, Try.ntmps76
  go_wp2
  go_loopw [3, 12] (fun v i wr => ∃ k b : Nat, k ≤ zs.length ∧ i = .int .i64 k ∧ v = .slice (some ⟨b, 0, none⟩) (k + 1) (k + 1) ∧ wr.rowIs b 2 (k + 1) (fun j => .int .i64 (wayF zs k j)) ∧ Below w.heap.size w wr) (fun _ i _ => zs.length - (intOf i).toNat)
  case atStart =>
    refine ⟨0, w.heap.size, Nat.zero_le _, rfl, rfl, ?_, (Below.refl _ _).alloc (Nat.le_refl _) _⟩
    have := World.rowIs_alloc w #[.int .i64 1] 2 (fun j => .int .i64 (wayF zs 0 j)) (fun j hj => by
      have h0 : j = 0 := by simpa using hj
      subst h0; simp [wayF])
    simpa using this
  case round =>
    obtain ⟨k, b, hk, rfl, rfl, hrow, hbl⟩ := hrel
    by_cases hlt : k < zs.length
    · obtain ⟨bz, oz, rfl, hbz, hcz⟩ := (h.below hbl).pos hlt
      have hmk := run_make_row' (P := Try.prog) 34 2 (.int .i64 0) 8 Try.underlying34 infoI rfl .i64 .i64 (k + 2) (by omega) (by omega)
      rw [show ((k + 2 : Nat) : Int) = (k : Int) + 1 + 1 by omega] at hmk
      obtain ⟨wo, hwo⟩ : ∃ wo : World, wo = wr := ⟨_, rfl⟩
      rw [← hwo] at hrow hbl hbz hcz ⊢
      clear hwo
      have HR := Lib.hid hrow
      have HL := Lib.hid hbl
      clear hrow hbl h
      go_wp2_with fail
      have hlo : w.heap.size ≤ wo.heap.size := HL.out.size
      have hbo : b < wo.heap.size := HR.out.lt
      go_loopw [22] (fun i wr => ∃ c : Nat, c ≤ k + 1 ∧ i = .int .i64 c ∧ wr.rowIs wo.heap.size 2 (k + 2) (fun j => .int .i64 (moreF zs k c j)) ∧ wr.rowIs b 2 (k + 1) (fun j => .int .i64 (wayF zs k j)) ∧ Below w.heap.size w wr) (fun i _ => k + 1 - (intOf i).toNat)
      case atStart =>
        refine ⟨0, Nat.zero_le _, rfl, (World.rowIs_made wo (.int .i64 0) (k + 2) 2).congr (fun j _ => by rw [moreF_zero]), ?_, HL.out.alloc hlo _⟩
        exact HR.out.of_block (((Below.refl wo.heap.size wo).alloc (Nat.le_refl _) _).block b hbo)
      case round =>
        clear hmk hcz hbz
        obtain ⟨c, hcl, rfl, hg, hr, hbl⟩ := hrel
        have HG := Lib.hid hg
        have HRR := Lib.hid hr
        have HB := Lib.hid hbl
        clear hbl
        by_cases hct : c < k + 1
        · obtain ⟨m0, m1, m2, m3⟩ := moreF_at zs k c
          have hbd := way_bd hs hlt c
          have hbd2 := (way_bd hs hlt (c - 1)).2
          have hal := allF_le (k + 1) (by omega)
          have hal2 : allF (k + 1) = allF k * 1000 := rfl
          have hws := hs k hlt
          have hwc := wayF_bd hs k c hk
          have hme : 0 ≤ moreF zs k c c ∧ moreF zs k c c ≤ allF k * 1000 := by
            rw [m0]; split <;> omega
          have d0 := hr.cell (i := c) hct
          have c0 := hg.cell (i := c) (by omega)
          have c1 := hg.cell (i := c + 1) (by omega)
          rw [m1] at c1
          have f0 := hg.frozen c
          have f1 := hg.frozen (c + 1)
          have HST := Lib.hid (more_step hg)
          have hne : ¬ wo.heap.size = b := by omega
          have HRO := Lib.hid (show ((wr.setCell ⟨wo.heap.size, c, none⟩ (.int .i64 (moreF zs k c c + wayF zs k c * (1000 - nth zs k)))).setCell ⟨wo.heap.size, c + 1, none⟩ (.int .i64 (wayF zs k c * nth zs k))).rowIs b 2 (k + 1) (fun j => .int .i64 (wayF zs k j)) from (hr.setOther (by simp; omega) _).setOther (by simp; omega) _)
          have HBO := Lib.hid (show Below w.heap.size w ((wr.setCell ⟨wo.heap.size, c, none⟩ (.int .i64 (moreF zs k c c + wayF zs k c * (1000 - nth zs k)))).setCell ⟨wo.heap.size, c + 1, none⟩ (.int .i64 (wayF zs k c * nth zs k))) from (HB.out.setCell hlo _).setCell hlo _)
          clear hg hr m0 m1 m2 m3
          have hk5 : k ≤ 5 := by omega
          go_wp2
          go_roundw
          case rel => exact ⟨c + 1, by omega, by go_num, HST.out, HRO.out, HBO.out⟩
          case measure => simp [intOf]; omega
        · obtain rfl : c = k + 1 := by omega
          have HW := Lib.hid (show wr.rowIs wo.heap.size 2 (k + 2) (fun j => .int .i64 (wayF zs (k + 1) j)) from hg.congr (fun j hj => by rw [moreF_all zs k j (by omega)]))
          clear hg hr
          go_wp2
          go_roundw
          case rel => exact ⟨k + 1, wo.heap.size, by omega, by go_num, rfl, HW.out, HB.out⟩
          case measure => simp [intOf]; omega
    · obtain rfl : k = zs.length := by omega
      go_wp2
      go_ret
      refine ⟨b, rfl, .inr ⟨b, 0, rfl, fun j hj => ?_⟩, hbl⟩
      rw [waysL_len] at hj
      rw [Nat.zero_add, waysL_nth (by omega)]
      exact hrow.cell hj

/-- What the reference's row holds when the entries from c on are turned. -/
def turnF (zs : List Int) (i c j : Nat) : Int := if c ≤ j then wayF zs (i + 1) j else wayF zs i j
theorem turnF_start (zs : List Int) (i j : Nat) : turnF zs i (i + 2) j = wayF zs i j := by
  unfold turnF
  by_cases h : i + 2 ≤ j
  · rw [if_pos h, wayF_zero zs (i + 1) j (by omega), wayF_zero zs i j (by omega)]
  · rw [if_neg h]
theorem turnF_end (zs : List Int) (i j : Nat) : turnF zs i 0 j = wayF zs (i + 1) j := by unfold turnF; rw [if_pos (Nat.zero_le _)]
theorem turnF_under (zs : List Int) (i c j : Nat) (h : j < c) : turnF zs i c j = wayF zs i j := by unfold turnF; rw [if_neg (by omega)]
theorem turn_step {w : World} {g n : Nat} {zs : List Int} {i c : Nat} {t : TypeId} (h : w.rowIs g t n (fun j => .int .i64 (turnF zs i (c + 1) j))) :
    (w.setCell ⟨g, c, none⟩ (.int .i64 (wayF zs (i + 1) c))).rowIs g t n (fun j => .int .i64 (turnF zs i c j)) := by
  refine (h.set c _).congr fun j _ => ?_
  by_cases h0 : j = c
  · subst h0; rw [if_pos rfl]; unfold turnF; rw [if_pos (Nat.le_refl _)]
  · rw [if_neg h0]; unfold turnF
    by_cases h1 : c + 1 ≤ j
    · rw [if_pos h1, if_pos (by omega)]
    · rw [if_neg h1, if_neg (by omega)]

theorem l15Ways_c (a : Option Addr) (cap : Nat) (zs : List Int) (w : World) (h : Nums .i64 w a zs) (hn : zs.length ≤ 5) (hs : Sure zs) :
    Calls Try.prog 73 #[.slice a zs.length cap] w fun e w' => ∃ b : Nat, e = .returned (.slice (some ⟨b, 0, none⟩) (zs.length + 1) (zs.length + 1)) ∧ (Nums .i64 w' (some ⟨b, 0, none⟩) (waysL zs zs.length) ∧ Below w.heap.size w w') := by
  have hmk := run_make_row' (P := Try.prog) 34 2 (.int .i64 0) 8 Try.underlying34 infoI rfl .i64 .i64 (zs.length + 1) (by omega) (by omega)
  rw [show ((zs.length + 1 : Nat) : Int) = (zs.length : Int) + 1 by omega] at hmk
  have hm0 := World.rowIs_made w (.int .i64 0) (zs.length + 1) 2
  have c00 := hm0.cell (i := 0) (by omega)
  have f00 := hm0.frozen 0
  have hma := World.rowIs_alloc w ((madeCells #[.int .i64 0] (zs.length + 1)).setIfInBounds 0 (.int .i64 1)) 2 (fun j => .int .i64 (wayF zs 0 j)) (fun j hj => by
    rw [Array.size_setIfInBounds, size_madeCells] at hj
    cases j with
    | zero => simp [wayF, size_madeCells]
    | succ j => simp [wayF, madeCells, hj, Nat.mod_one])
  rw [Array.size_setIfInBounds, size_madeCells] at hma
  have HM := Lib.hid hma
  clear hma
  clear hm0
  go_enter Try.func73, Try.ntmps73
  go_wp2
  go_loopw [4] (fun i wr => ∃ k : Nat, k ≤ zs.length ∧ i = .int .i64 k ∧ wr.rowIs w.heap.size 2 (zs.length + 1) (fun j => .int .i64 (wayF zs k j)) ∧ Below w.heap.size w wr) (fun i _ => zs.length - (intOf i).toNat)
  case atStart => exact ⟨0, Nat.zero_le _, rfl, HM.out, (Below.refl _ _).alloc (Nat.le_refl _) _⟩
  case round =>
    clear hmk c00 f00
    obtain ⟨k, hk, rfl, hrow, hbl⟩ := hrel
    by_cases hlt : k < zs.length
    · obtain ⟨wo, hwo⟩ : ∃ wo : World, wo = wr := ⟨_, rfl⟩
      rw [← hwo] at hrow hbl ⊢
      clear hwo
      have HR := Lib.hid hrow
      have HL := Lib.hid hbl
      clear hrow hbl
      go_wp2_with fail
      go_loopw [5] (fun i wr => ∃ c : Nat, c ≤ k + 2 ∧ i = .int .i64 ((c : Int) - 1) ∧ wr.rowIs w.heap.size 2 (zs.length + 1) (fun j => .int .i64 (turnF zs k c j)) ∧ Below w.heap.size w wr) (fun i _ => (intOf i + 1).toNat)
      case atStart => exact ⟨k + 2, Nat.le_refl _, by congr 1; omega, HR.out.congr (fun j _ => by rw [turnF_start]), HL.out⟩
      case round =>
        obtain ⟨c, hcl, rfl, hrow, hbl⟩ := hrel
        have HB := Lib.hid hbl
        clear hbl
        rcases Nat.eq_zero_or_pos c with rfl | hc0
        · have HW := Lib.hid (show wr.rowIs w.heap.size 2 (zs.length + 1) (fun j => .int .i64 (wayF zs (k + 1) j)) from hrow.congr (fun j _ => by rw [turnF_end]))
          clear hrow
          go_wp2
          go_roundw
          case rel => exact ⟨k + 1, by omega, by go_num, HW.out, HB.out⟩
          case measure => simp [intOf]; omega
        · obtain ⟨m, rfl⟩ : ∃ m, c = m + 1 := ⟨c - 1, by omega⟩
          obtain ⟨bz, oz, rfl, hbz, hcz⟩ := (h.below HB.out).pos hlt
          have hbd := way_bd hs hlt m
          have hbd2 := (way_bd hs hlt (m - 1)).2
          have hal := allF_le (k + 1) (by omega)
          have hal2 : allF (k + 1) = allF k * 1000 := rfl
          have hws := hs k hlt
          have hwc := wayF_bd hs k m hk
          have hwd := wayF_bd hs k (m - 1) hk
          have hak := allF_pos k
          have d0 := hrow.cell (i := m) (by omega)
          rw [turnF_under zs k (m + 1) m (by omega)] at d0
          have hcm : (((m + 1 : Nat) : Int) - 1) = m := by omega
          rw [hcm]
          have HST := Lib.hid (show ∀ q, ((wr.drewN q).setCell ⟨w.heap.size, m, none⟩ (.int .i64 (wayF zs (k + 1) m))).rowIs w.heap.size 2 (zs.length + 1) (fun j => .int .i64 (turnF zs k m j)) from fun q => turn_step (hrow.of_block rfl))
          have hfz : wr.frozen? ⟨w.heap.size, m, none⟩ = false := hrow.frozen m
          have HSU := Lib.hid (wayF_succ zs k m)
          have q1 := IntWalk.i64_in (wayF zs k m * (1000 - nth zs k)) (by omega)
          have q2 := IntWalk.i64_in (1000 - nth zs k) (by omega)
          have i0 : (0 : Int) ≤ (m : Int) := by omega
          have i1 : (m : Int) < (zs.length : Int) + 1 := by omega
          have i2 : (0 : Int) ≤ (k : Int) := by omega
          have i3 : (k : Int) < zs.length := by omega
          clear h
          rcases Nat.eq_zero_or_pos m with rfl | hm0
          · have hst := HST.out
            rw [HSU.out, if_neg (Nat.lt_irrefl 0), Int.add_zero] at hst
            have HS0 := Lib.hid hst
            clear hrow hst
            go_wp2_with fail
            go_quiet (fail)
            go_wp2
            go_roundw
            case rel => exact ⟨0, by omega, by rfl, HS0.out _, (below_drewN HB.out _).setCell (Nat.le_refl _) _⟩
            case measure => simp [intOf]
          · have hst := HST.out
            rw [HSU.out, if_pos hm0] at hst
            have HS0 := Lib.hid hst
            have d1 := hrow.cell (i := m - 1) (by omega)
            rw [turnF_under zs k (m + 1) (m - 1) (by omega)] at d1
            have hm1 : ((m - 1 : Nat) : Int) = (m : Int) - 1 := by omega
            have hbs : wayF zs k m * (1000 - nth zs k) + wayF zs k (m - 1) * nth zs k ≤ 9000000000000000000 := by omega
            have q3 := IntWalk.i64_in (wayF zs k (m - 1) * nth zs k) (by omega)
            have q4 := IntWalk.i64_in (wayF zs k m * (1000 - nth zs k) + wayF zs k (m - 1) * nth zs k) (by omega)
            have q5 := IntWalk.i64_in ((m : Int) - 1) (by omega)
            have q6 : ((m : Int) - 1).toNat = m - 1 := by omega
            have i4 : (0 : Int) ≤ (m : Int) - 1 := by omega
            have i5 : (m : Int) - 1 < (zs.length : Int) + 1 := by omega
            clear hrow hst
            go_wp2_with fail
            go_quiet (fail)
            go_wp2_with fail
            go_quiet (fail)
            go_wp2
            go_roundw
            case rel => exact ⟨m, by omega, by go_num, HS0.out _, (below_drewN HB.out _).setCell (Nat.le_refl _) _⟩
            case measure => simp [intOf]
    · obtain rfl : k = zs.length := by omega
      go_wp2
      go_ret
      refine ⟨w.heap.size, rfl, .inr ⟨w.heap.size, 0, rfl, fun j hj => ?_⟩, hbl⟩
      rw [waysL_len] at hj
      rw [Nat.zero_add, waysL_nth (by omega)]
      exact hrow.cell hj
end Go.Proofs.Ythkjnemlklndfaa
