/- The document's MonthsOf: what days come to, month by month: the walk. -/
import Derived.Test.YtnbpdknmbjkfeaaDoorSums2
import Derived.Test.YtnbpdknmbjkfeaaDoorRefDay2
import Derived.Test.YtnbpdknmbjkfeaaDoorPart3
import Derived.Test.YtnbpdknmbjkfeaaDoorNest
namespace Go.Proofs.YtnbpdknmbjkfeaaDoor.SumsRef
open Go.RowKit Cal Day Mem Pays Rnd Sums RefDay Nest

/-- no more pays than days -/
theorem months_len : ∀ {ps : List Pay} {xs : List Int} {f way : Int}, MonthsR ps xs f way → ps.length ≤ xs.length
  | [], _, _, _, _ => by simp
  | p :: ps, xs, f, way, h => by
    obtain ⟨y, m, d, hv, hn, hx, hp, hr⟩ := h
    have ih := months_len hr
    have h1 : 0 < xs.length := List.length_pos_iff.2 hx
    have h2 : 1 ≤ span xs y m d := by
      have := hv.2.2.2.2.2
      unfold span
      omega
    rw [List.length_drop] at ih
    simp only [List.length_cons]
    omega
theorem rpay_info : (Tryd.prog.info? 148).map (fun i => (i.zero, i.size, i.bytes)) = some (some (.agg #[.int .i64 0, .int .i64 0, .int .i64 0]), 3, 24) := by kernel_rfl
/-- some truth value; nothing has turned -/
def SomeIs (w : World) (e : Ending) (w' : World) : Prop := (∃ b : Bool, e = .returned (.bool b)) ∧ w = w'
theorem isday_some (d : Int) (w : World) : Calls Tryd.prog 66 #[.int .i64 d] w (SomeIs w) := by
  by_cases h : 1 ≤ d ∧ d ≤ 3652059
  · exact (isday_yes d h.1 h.2 w).mono fun e w' ⟨he, hw⟩ => ⟨⟨_, he⟩, hw⟩
  · exact (isday_no d (by omega) w).mono fun e w' ⟨he, hw⟩ => ⟨⟨_, he⟩, hw⟩
set_option maxHeartbeats 1000000 in
theorem monthlong_any (y m : Int) (hy : 1 ≤ y) (hy' : y ≤ 9999) (hm : 1 ≤ m) (hm' : m ≤ 12) (w : World) :
    Calls Tryd.prog 81 #[.int .i64 y, .int .i64 m] w fun e w' => e = .returned (.int .i64 (dim y m)) ∧ Below w.heap.size w w' := by
  have hd := dim_bd y m
  go_enter Tryd.func81, Tryd.ntmps81
  go_wp2_with fail
  go_loopw [5] (fun t5 wr => ∃ n : Int, t5 = .int .i64 n ∧ 28 ≤ n ∧ n ≤ dim y m ∧ Hid (Below w.heap.size w wr)) (fun t5 _ => (31 - intOf t5).toNat)
  case atStart => exact ⟨28, rfl, by omega, by omega, Below.refl _ _⟩
  case round =>
    obtain ⟨n, rfl, hn1, hn2, HB⟩ := hrel
    by_cases hlt : n < 31
    · by_cases hv : n + 1 ≤ dim y m
      · go_wp2_with fail
        refine (dayof_yes y m (n + 1) ⟨hy, hy', hm, hm', by omega, hv⟩ _).mono ?_
        rintro e w1 ⟨rfl, hb⟩
        have HB1 := Lib.hid (ext_trans HB.out hb)
        clear hb
        go_wp2_with fail
        go_roundw
        case rel => exact ⟨n + 1, rfl, by omega, hv, HB1.out⟩
        case measure => simp [intOf]; omega
      · obtain rfl : n = dim y m := by omega
        go_wp2_with fail
        refine (dayof_no y m (dim y m + 1) (fun h => by have := h.2.2.2.2.2; omega) _).mono ?_
        rintro e w1 ⟨rfl, hb⟩
        have HB1 := Lib.hid (ext_trans HB.out hb)
        clear hb
        go_wp2_with fail
        go_ret
        exact ⟨rfl, HB1.out⟩
    · obtain rfl : n = dim y m := by omega
      go_wp2_with fail
      go_ret
      exact ⟨rfl, HB.out⟩
def GdC (n : Int) : Prop := -1000000000000 ≤ n ∧ n ≤ 1000000000000
/-- what MonthsOf hands on -/
def MoPost (xs : List Int) (f way : Int) (w : World) (e : Ending) (w' : World) : Prop :=
  Below w.heap.size w w' ∧
  (((way < 0 ∨ 5 < way) ∧ e = .returned (.tuple #[.slice none 0 0, .int .i64 9])) ∨
   ((0 ≤ way ∧ way ≤ 5) ∧ 4000 < xs.length ∧ e = .returned (.tuple #[.slice none 0 0, .int .i64 2])) ∨
   ((0 ≤ way ∧ way ≤ 5) ∧ xs.length ≤ 4000 ∧ xs ≠ [] ∧ (f < 1 ∨ 3652060 < f + xs.length) ∧ e = .returned (.tuple #[.slice none 0 0, .int .i64 4])) ∨
   ((0 ≤ way ∧ way ≤ 5) ∧ xs.length ≤ 4000 ∧ xs ≠ [] ∧ (1 ≤ f ∧ f + xs.length ≤ 3652060) ∧ (∃ x ∈ xs, ¬ GdC x) ∧ e = .returned (.tuple #[.slice none 0 0, .int .i64 3])) ∨
   ((0 ≤ way ∧ way ≤ 5) ∧ xs.length ≤ 4000 ∧ (xs = [] ∨ (1 ≤ f ∧ f + xs.length ≤ 3652060)) ∧ (∀ x ∈ xs, GdC x) ∧ ∃ (ps : List Pay) (A' : Option Addr) (c' : Nat), e = .returned (.tuple #[.slice A' ps.length c', .int .i64 0]) ∧ MonthsR ps xs f way ∧ Rd w' A' (ps.flatMap payCells) ∧ ps.length ≤ c'))
set_option maxHeartbeats 1000000 in
theorem mo_way (xs : List Int) (f way : Int) (A : Option Addr) (c : Nat) (h : way < 0 ∨ 5 < way) (w : World) :
    Calls Tryd.prog 29 #[.slice A xs.length c, .int .i64 f, .int .i64 way] w (MoPost xs f way w) := by
  have H := Lib.hid h
  clear h
  go_enter Tryd.func29, Tryd.ntmps29
  go_wp2_with fail
  refine (Coin.isway_no _ H.out _).mono ?_
  rintro e w' ⟨rfl, rfl⟩
  go_wp2_with fail
  go_ret2
  exact ⟨Below.refl _ _, .inl ⟨H.out, rfl⟩⟩
set_option maxHeartbeats 1000000 in
theorem mo_long (xs : List Int) (f way : Int) (A : Option Addr) (c : Nat) (w0 : 0 ≤ way) (w5 : way ≤ 5) (h : 4000 < xs.length) (w : World) :
    Calls Tryd.prog 29 #[.slice A xs.length c, .int .i64 f, .int .i64 way] w (MoPost xs f way w) := by
  have h' : decide (4000 < (xs.length : Int)) = true := by simp; omega
  go_enter Tryd.func29, Tryd.ntmps29
  go_wp2_with fail
  refine (Coin.isway_yes _ w0 w5 _).mono ?_
  rintro e w' ⟨rfl, rfl⟩
  go_wp2_with fail
  go_ret2
  exact ⟨Below.refl _ _, .inr (.inl ⟨⟨w0, w5⟩, h, rfl⟩)⟩
set_option maxHeartbeats 1000000 in
theorem mo_day (xs : List Int) (f way : Int) (A : Option Addr) (c : Nat) (w0 : 0 ≤ way) (w5 : way ≤ 5) (hl : xs.length ≤ 4000) (hx : xs ≠ []) (h : f < 1 ∨ 3652060 < f + xs.length) (w : World) :
    Calls Tryd.prog 29 #[.slice A xs.length c, .int .i64 f, .int .i64 way] w (MoPost xs f way w) := by
  have hpos : 0 < xs.length := List.length_pos_iff.2 hx
  have hpos' : decide (0 < (xs.length : Int)) = true := by simp; omega
  have l0' : decide (4000 < (xs.length : Int)) = false := by simp; omega
  have HX := Lib.hid hx
  have HH := Lib.hid h
  clear hx
  by_cases h1 : f < 1 ∨ 3652059 < f
  · clear h
    go_enter Tryd.func29, Tryd.ntmps29
    go_wp2_with fail
    refine (Coin.isway_yes _ w0 w5 _).mono ?_
    rintro e w' ⟨rfl, rfl⟩
    go_wp2_with fail
    refine (isday_no _ h1 _).mono ?_
    rintro e w' ⟨rfl, rfl⟩
    clear h1
    go_wp2_with fail
    refine (isday_some _ _).mono ?_
    rintro e w' ⟨⟨b, rfl⟩, rfl⟩
    go_wp2_with fail
    go_ret2
    exact ⟨Below.refl _ _, .inr (.inr (.inl ⟨⟨w0, w5⟩, hl, HX.out, HH.out, rfl⟩))⟩
  · have h2 : 1 ≤ f := by omega
    have h3 : f ≤ 3652059 := by omega
    have h4 : 3652060 < f + xs.length := by omega
    clear h h1
    go_enter Tryd.func29, Tryd.ntmps29
    go_wp2_with fail
    refine (Coin.isway_yes _ w0 w5 _).mono ?_
    rintro e w' ⟨rfl, rfl⟩
    go_wp2_with fail
    refine (isday_yes _ h2 h3 _).mono ?_
    rintro e w' ⟨rfl, rfl⟩
    go_wp2_with fail
    refine (isday_no _ (by omega) _).mono ?_
    rintro e w' ⟨rfl, rfl⟩
    go_wp2_with fail
    go_ret2
    exact ⟨Below.refl _ _, .inr (.inr (.inl ⟨⟨w0, w5⟩, hl, HX.out, HH.out, rfl⟩))⟩
set_option maxHeartbeats 1000000 in
theorem mo_nil (f way : Int) (A : Option Addr) (c : Nat) (w0 : 0 ≤ way) (w5 : way ≤ 5) (w : World) :
    Calls Tryd.prog 29 #[.slice A ([] : List Int).length c, .int .i64 f, .int .i64 way] w (MoPost [] f way w) := by
  show Calls Tryd.prog 29 #[.slice A 0 c, .int .i64 f, .int .i64 way] w (MoPost [] f way w)
  go_enter Tryd.func29, Tryd.ntmps29
  go_wp2_with fail
  refine (Coin.isway_yes _ w0 w5 _).mono ?_
  rintro e w' ⟨rfl, rfl⟩
  go_wp2_with fail
  refine (isday_some _ _).mono ?_
  rintro e w' ⟨⟨b, rfl⟩, rfl⟩
  go_wp2_with fail
  refine (isday_some _ _).mono ?_
  rintro e w' ⟨⟨b2, rfl⟩, rfl⟩
  go_wp2_with fail
  go_loop [12] (fun t12 => t12 = .int .i64 0) (fun _ => 0)
  case atStart => rfl
  case round =>
    subst hrel
    go_wp2_with fail
    go_loop [14, 17] (fun t14 t17 => t14 = .slice none 0 0 ∧ t17 = .int .i64 0) (fun _ _ => 0)
    case atStart => exact ⟨rfl, rfl⟩
    case round =>
      obtain ⟨rfl, rfl⟩ := hrel
      go_wp2_with fail
      go_ret2
      exact ⟨Below.refl _ _, .inr (.inr (.inr (.inr ⟨⟨w0, w5⟩, by simp, .inl rfl, by simp, [], none, 0, rfl, rfl, Rd.nil, by simp⟩)))⟩
set_option maxRecDepth 100000 in
set_option maxHeartbeats 2000000 in
theorem mo_ok (xs : List Int) (f way : Int) (A : Option Addr) (c : Nat) (w0 : 0 ≤ way) (w5 : way ≤ 5) (hl : xs.length ≤ 4000) (hx : xs ≠ []) (f1 : 1 ≤ f) (hlast : f + xs.length ≤ 3652060) (w : World) (hr : Rd w A (ints xs)) :
    Calls Tryd.prog 29 #[.slice A xs.length c, .int .i64 f, .int .i64 way] w (MoPost xs f way w) := by
  have hpos : 0 < xs.length := List.length_pos_iff.2 hx
  have hpos' : decide (0 < (xs.length : Int)) = true := by simp; omega
  have l0' : decide (4000 < (xs.length : Int)) = false := by simp; omega
  have HR := Lib.hid hr
  have HNe := Lib.hid hx
  obtain ⟨i0, hi, hz0, hz1, hz2⟩ := info_parts rpay_info
  have HI := Lib.hid hi
  have HZ0 := Lib.hid hz0
  have HZ1 := Lib.hid hz1
  have HZ2 := Lib.hid hz2
  clear hi hz0 hz1 hz2 hr hx
  go_enter Tryd.func29, Tryd.ntmps29
  go_wp2_with fail
  refine (Coin.isway_yes _ w0 w5 _).mono ?_
  rintro e w' ⟨rfl, rfl⟩
  go_wp2_with fail
  refine (isday_yes _ f1 (by omega) _).mono ?_
  rintro e w' ⟨rfl, rfl⟩
  go_wp2_with fail
  refine (isday_yes _ (by omega) (by omega) _).mono ?_
  rintro e w' ⟨rfl, rfl⟩
  go_wp2_with fail
  go_loop [12] (fun t12 => ∃ i : Nat, t12 = .int .i64 i ∧ i ≤ xs.length ∧ Hid (∀ j (h : j < xs.length), j < i → GdC xs[j])) (fun t12 => xs.length - (intOf t12).toNat)
  case atStart => exact ⟨0, rfl, Nat.zero_le _, fun j _ hj => absurd hj (by omega)⟩
  case round =>
    obtain ⟨i, rfl, hi, HG⟩ := hrel
    by_cases hlt : i < xs.length
    · obtain ⟨b', o', rfl, hc⟩ := HR.out.int hlt
      have HMem := Lib.hid (List.getElem_mem hlt)
      have HG2 := Lib.hid (show GdC xs[i] → ∀ j (h : j < xs.length), j < i + 1 → GdC xs[j] from fun hg j h hj => by
        by_cases e : j = i
        · subst e; exact hg
        · exact HG.out j h (by omega))
      generalize xs[i] = x at *
      by_cases hg : -1000000000000 ≤ x ∧ x ≤ 1000000000000
      · have HGx := Lib.hid (show GdC x from hg)
        have HS := Lib.hid (fun w => Coin.small_yes x hg.1 hg.2 w)
        clear hg
        go_wp2_with fail
        refine (HS.out _).mono ?_
        rintro e w' ⟨rfl, rfl⟩
        go_wp2_with fail
        go_round
        case rel => exact ⟨i + 1, by go_num, by omega, HG2.out HGx.out⟩
        case measure => simp [intOf]; omega
      · have HGx := Lib.hid (show ¬ GdC x from hg)
        have HS := Lib.hid (fun w => Coin.small_no x (by omega) w)
        clear hg
        go_wp2_with fail
        refine (HS.out _).mono ?_
        rintro e w' ⟨rfl, rfl⟩
        go_wp2_with fail
        go_ret2
        exact ⟨Below.refl _ _, .inr (.inr (.inr (.inl ⟨⟨w0, w5⟩, hl, HNe.out, ⟨f1, hlast⟩, ⟨_, HMem.out, HGx.out⟩, rfl⟩)))⟩
    · obtain rfl : xs.length = i := by omega
      have HC := Lib.hid (show ∀ x ∈ xs, GdC x from fun x hx => by
        obtain ⟨j, hj, rfl⟩ := List.mem_iff_getElem.1 hx
        exact HG.out j hj hj)
      clear HG
      go_wp2_with fail
      go_loopw [14, 15, 16, 17] (fun t14 t15 t16 t17 wr => ∃ (i : Nat) (ps : List Pay) (sum first : Int), t15 = .int .i64 sum ∧ t16 = .int .i64 first ∧ t17 = .int .i64 i ∧ i ≤ xs.length ∧ -4000000000000000 ≤ sum ∧ sum ≤ 4000000000000000 ∧ ps.length ≤ i ∧ Hid (RefI ps xs f way i sum first) ∧ Hid (Below w.heap.size w wr) ∧ Hid (wr.ownsRow w.heap.size 148 3 t14 ps.length (ps.flatMap payCells))) (fun _ _ _ t17 _ => xs.length - (intOf t17).toNat)
      case atStart => exact ⟨0, [], 0, f, rfl, rfl, rfl, Nat.zero_le _, by omega, by omega, by simp, RefI.start xs f way, Below.refl _ _, World.ownsRow_nil _ _ _ _⟩
      case round =>
        obtain ⟨i, ps, sum, first, rfl, rfl, rfl, hi, hs1, hs2, hpl, HI1, HB, HO⟩ := hrel
        by_cases hlt : i < xs.length
        · obtain ⟨b', o', rfl, hc⟩ := (HR.out.ext HB.out).int hlt
          obtain ⟨x1, x2⟩ := HC.out _ (List.getElem_mem hlt)
          have HStop := Lib.hid (fun (y m d : Int) (hv : Vld y m d) (hn : num y m d = f + (i : Int)) => HI1.out.stop hlt hv hn)
          have HGo := Lib.hid (fun (y m d : Int) (hv : Vld y m d) (hn : num y m d = f + (i : Int)) => HI1.out.go hlt hv hn)
          generalize xs[i] = x at *
          go_wp2_with fail
          refine (partsof_yes (f + (i : Int)) (by omega) (by omega) _).mono ?_
          rintro e w1 ⟨y, m, d, rfl, hv, hn, hb⟩
          have HB1 := Lib.hid (ext_trans HB.out hb)
          have HO1 := Lib.hid (own_ext HO.out hb)
          have HV := Lib.hid hv
          have HN := Lib.hid hn
          have HML := Lib.hid (fun w => monthlong_any y m hv.1 hv.2.1 hv.2.2.1 hv.2.2.2.1 w)
          obtain ⟨dd, hdd⟩ : ∃ dd, dd = dim y m := ⟨_, rfl⟩
          have d28 : 28 ≤ dd := by rw [hdd]; exact (dim_bd y m).1
          have d31 : dd ≤ 31 := by rw [hdd]; exact (dim_bd y m).2
          have HDd := Lib.hid hdd
          rw [← hdd] at HML
          clear hb hv hn hdd
          go_wp2_with fail
          refine (HML.out _).mono ?_
          rintro e w2 ⟨rfl, hb⟩
          have HB2 := Lib.hid (ext_trans HB1.out hb)
          have HO2 := Lib.hid (own_ext HO1.out hb)
          clear hb
          by_cases hd : d = dd
          · have HSt := Lib.hid (HStop.out y m d HV.out HN.out (.inl (hd.trans HDd.out)))
            rw [← HDd.out] at HSt
            subst hd
            clear HStop HGo HV HN HDd HML HI1 HB HB1 HO HO1
            go_wp2_with fail
            refine (Coin.round_any (sum + x) d way (by omega) (by omega) (by omega) (by omega) w0 w5 _).mono ?_
            rintro e w' ⟨rfl, rfl⟩
            go_wp2_with (at_builtin; refine wpList_append_own _ rfl _ _ _ rfl w.heap.size 148 i0 _ 3 24 Tryd.underlying65 HI.out HZ0.out HZ1.out HZ2.out rfl (by omega) u14 ps.length _ rfl (World.ownsRow.alloc HO2.out _) ⟨w2.heap.size, 0, none⟩ 1 1 [.int .i64 first, .int .i64 (f + (i : Int) + 1), .int .i64 (rnd (sum + x) d way)] rfl rfl (new_cells w2 [.int .i64 first, .int .i64 (f + (i : Int) + 1), .int .i64 (rnd (sum + x) d way)] _ _ rfl) (by intro u hu; simp only [List.mem_cons, List.not_mem_nil, or_false] at hu; rcases hu with rfl | rfl | rfl <;> rfl) (by simp only [maxLen]; omega) (by omega) (Nat.le_trans HB2.out.size (by simp)) ?_; intro v1 w3 hown1 hg1 _; have HO3 := Lib.hid hown1; have HB3 := Lib.hid (grown_ext (HB2.out.trans ((ext_alloc w2 _).mono HB2.out.size)) rfl (World.ownsRow.alloc HO2.out _) hg1); clear hown1 hg1)
            go_roundw
            case rel =>
              refine ⟨i + 1, ps ++ [(first, f + (i : Int) + 1, rnd (sum + x) d way)], 0, f + (i : Int) + 1, rfl, rfl, by go_num, by omega, by omega, by omega, by simp; omega, HSt.out, HB3.out, ?_⟩
              have ho := HO3.out
              show World.ownsRow _ _ _ _ _ _ _
              simpa [List.flatMap_append, payCells] using ho
            case measure => simp [intOf]; omega
          · have hd' : (d == dd) = false := by simp [hd]
            by_cases hlast2 : i + 1 = xs.length
            · have HSt := Lib.hid (HStop.out y m d HV.out HN.out (.inr hlast2))
              rw [← HDd.out] at HSt
              have hl2 : ((i : Int) == (xs.length : Int) - 1) = true := by simp; omega
              clear HStop HGo HV HN HDd HML HI1 HB HB1 HO HO1 hd
              go_wp2_with fail
              refine (Coin.round_any (sum + x) dd way (by omega) (by omega) (by omega) (by omega) w0 w5 _).mono ?_
              rintro e w' ⟨rfl, rfl⟩
              go_wp2_with (at_builtin; refine wpList_append_own _ rfl _ _ _ rfl w.heap.size 148 i0 _ 3 24 Tryd.underlying65 HI.out HZ0.out HZ1.out HZ2.out rfl (by omega) u14 ps.length _ rfl (World.ownsRow.alloc HO2.out _) ⟨w2.heap.size, 0, none⟩ 1 1 [.int .i64 first, .int .i64 (f + (i : Int) + 1), .int .i64 (rnd (sum + x) dd way)] rfl rfl (new_cells w2 [.int .i64 first, .int .i64 (f + (i : Int) + 1), .int .i64 (rnd (sum + x) dd way)] _ _ rfl) (by intro u hu; simp only [List.mem_cons, List.not_mem_nil, or_false] at hu; rcases hu with rfl | rfl | rfl <;> rfl) (by simp only [maxLen]; omega) (by omega) (Nat.le_trans HB2.out.size (by simp)) ?_; intro v1 w3 hown1 hg1 _; have HO3 := Lib.hid hown1; have HB3 := Lib.hid (grown_ext (HB2.out.trans ((ext_alloc w2 _).mono HB2.out.size)) rfl (World.ownsRow.alloc HO2.out _) hg1); clear hown1 hg1)
              go_roundw
              case rel =>
                refine ⟨i + 1, ps ++ [(first, f + (i : Int) + 1, rnd (sum + x) dd way)], 0, f + (i : Int) + 1, rfl, rfl, by go_num, by omega, by omega, by omega, by simp; omega, HSt.out, HB3.out, ?_⟩
                have ho := HO3.out
                show World.ownsRow _ _ _ _ _ _ _
                simpa [List.flatMap_append, payCells] using ho
              case measure => simp [intOf]; omega
            · have HGx := Lib.hid (HGo.out y m d HV.out HN.out (by rw [← HDd.out]; exact hd) hlast2)
              have hl2 : ((i : Int) == (xs.length : Int) - 1) = false := by simp; omega
              have hsb := HGx.out.sum_bd hl HC.out
              obtain ⟨sb1, sb2⟩ := hsb
              clear HStop HGo HV HN HDd HML HI1 HB HB1 HO HO1 hd
              go_wp2_with fail
              go_roundw
              case rel => exact ⟨i + 1, ps, sum + x, first, rfl, rfl, by go_num, by omega, sb1, sb2, by omega, HGx.out, HB2.out, HO2.out⟩
              case measure => simp [intOf]; omega
        · obtain rfl : xs.length = i := by omega
          obtain ⟨A', c', rfl, hcc, _⟩ := own_slice HO.out
          go_wp2_with fail
          go_ret2
          exact ⟨HB.out, .inr (.inr (.inr (.inr ⟨⟨w0, w5⟩, hl, .inr ⟨f1, hlast⟩, HC.out, ps, A', c', rfl, HI1.out.finish, Rd.of_own HO.out, hcc⟩)))⟩
end Go.Proofs.YtnbpdknmbjkfeaaDoor.SumsRef
