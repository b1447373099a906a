/- Cases: the rings of a plan's moves: what the program's search finds. -/
import Derived.Test.YtjfiodknjchngaaGreatDoorCeI
import Derived.Test.YtjfiodknjchngaaGreatDoorCeP
namespace Go.Proofs.YtjfiodknjchngaaGreatDoor.Ce
open Go.RowKit Mem Nest Srs Cf Fk Msi

theorem grow_refl (w : World) (r : Option Nat) : w.grownBy w r := ⟨rfl, rfl, rfl, Nat.le_refl _, fun _ _ _ => rfl⟩
theorem grow_trans {a b c : World} {r : Option Nat} (h : a.grownBy b r) (k : b.grownBy c r) : a.grownBy c r :=
  ⟨k.os.trans h.os, k.tape.trans h.tape, k.output.trans h.output, Nat.le_trans h.size k.size, fun n hn hr => (k.block n (Nat.lt_of_lt_of_le hn h.size) hr).trans (h.block n hn hr)⟩
theorem grow_ext {a b : World} {r : Option Nat} (h : Below a.heap.size a b) : a.grownBy b r := ⟨h.os, h.tape, h.output, h.size, fun n hn _ => h.block n hn⟩
/-- a move that may be done any number of times leads from v to t -/
def edge (ms : List Mv) (v t : List UInt8) : Prop := ∃ m ∈ ms, m.frm = v ∧ m.most = 0 ∧ m.to_ = t
/-- what the search reads, and does not write -/
structure RgM (w : World) (ms : List Mv) (tb mb pb fb : Nat) (A : Option Addr) (c : Nat) : Prop where
  t : w.cell? ⟨tb, 0, none⟩ = some (.map (some mb))
  p : w.cell? ⟨pb, 2, none⟩ = some (.slice A ms.length c)
  f : w.cell? ⟨fb, 0, none⟩ = some (.func (.func 81) #[] #[.pointer (some ⟨tb, 0, none⟩), .pointer (some ⟨pb, 0, none⟩), .pointer (some ⟨fb, 0, none⟩)])
  m : Rd w A (ms.flatMap mvCells)
  nt : tb ≠ mb
  np : pb ≠ mb
  nf : fb ≠ mb
  nm : ms ≠ [] → ∀ a, A = some a → a.block ≠ mb
theorem RgM.grown {w w' : World} {ms : List Mv} {tb mb pb fb : Nat} {A : Option Addr} {c : Nat} (h : RgM w ms tb mb pb fb A c) (hg : w.grownBy w' (some mb)) : RgM w' ms tb mb pb fb A c :=
  ⟨hg.cell h.t fun e => h.nt (Option.some.inj e), hg.cell h.p fun e => h.np (Option.some.inj e), hg.cell h.f fun e => h.nf (Option.some.inj e),
    fun j u hj => by
      obtain ⟨b, o, e, hc⟩ := h.m j u hj
      exact ⟨b, o, e, hg.cell hc fun e2 => h.nm (by rintro rfl; simp at hj) _ e (Option.some.inj e2)⟩, h.nt, h.np, h.nf, h.nm⟩
theorem rd_keep {w0 w1 w2 : World} {A : Option Addr} {cs : List Value} {mb : Nat} (h : Rd w0 A cs) (hb : Below w0.heap.size w0 w1) (hg : w1.grownBy w2 (some mb)) (hm : w0.heap.size ≤ mb) : Rd w2 A cs := fun j u hj => by
  obtain ⟨b, o, e, hc⟩ := h j u hj
  refine ⟨b, o, e, hg.cell (cell_ext hb hc) fun e2 => ?_⟩
  have h1 := cell_lt hc
  have h2 := Option.some.inj e2
  simp only at h1 h2
  omega
def RgPost (ms : List Mv) (all : List (List UInt8)) (mb : Nat) (G L : List (List UInt8)) (s : List UInt8) (w : World) : Ending → World → Prop :=
  Two (fun w' => w.grownBy w' (some mb) ∧ ∃ v k, Rch (edge ms) k v v)
    (fun w' => w.grownBy w' (some mb) ∧ ∃ g' L', Srch (edge ms) all g' G L' ∧ s ∈ L' ∧ (∀ x ∈ L, x ∈ L') ∧ SI w' mb (G.length + 2 * L'.length) g')
set_option maxRecDepth 100000 in
set_option maxHeartbeats 4000000 in
/-- one call of the search, when deeper ones do as they should -/
theorem ring1_at (ms : List Mv) (hms : ms.length ≤ 1000) (all : List (List UInt8)) (ha : all.length ≤ 1000) (hl : ∀ s ∈ all, s.length ≤ 9223372036854775807) (hall : ∀ m ∈ ms, m.frm ∈ all ∧ m.to_ ∈ all) (tb mb pb fb : Nat) (A : Option Addr) (c : Nat)
    (G L : List (List UInt8)) (g : List UInt8 → Option Int) (s : List UInt8) (w : World) (hS : Srch (edge ms) all g G L) (hG : ∀ v ∈ G, ∃ k, Rch (edge ms) k v s) (hs : s ∈ all) (hM : RgM w ms tb mb pb fb A c) (hI : SI w mb (G.length + 2 * L.length) g)
    (ih : ∀ (G' L' : List (List UInt8)) (g' : List UInt8 → Option Int) (s' : List UInt8) (w' : World), G.length + L.length < G'.length + L'.length → Srch (edge ms) all g' G' L' → (∀ v ∈ G', ∃ k, Rch (edge ms) k v s') → s' ∈ all → RgM w' ms tb mb pb fb A c → SI w' mb (G'.length + 2 * L'.length) g' →
      Calls Tryz.prog 81 #[.string ⟨s'.toArray⟩, .pointer (some ⟨tb, 0, none⟩), .pointer (some ⟨pb, 0, none⟩), .pointer (some ⟨fb, 0, none⟩)] w' (RgPost ms all mb G' L' s' w')) :
    Calls Tryz.prog 81 #[.string ⟨s.toArray⟩, .pointer (some ⟨tb, 0, none⟩), .pointer (some ⟨pb, 0, none⟩), .pointer (some ⟨fb, 0, none⟩)] w (RgPost ms all mb G L s w) := by
  have hlk := hI.look (hl s hs)
  have hnum := hS.num s
  have HS := Lib.hid hS
  have HG := Lib.hid hG
  have HI := Lib.hid hI
  have HM := Lib.hid hM
  have t0 := hM.t
  clear hI hG hM
  by_cases c1 : s ∈ G
  · rw [if_pos c1] at hnum
    rw [hnum] at hlk
    obtain ⟨k, hk⟩ := HG.out s c1
    have HK := Lib.hid hk
    clear hnum hS hk ih hs hl hall HG c1
    go_enter Tryz.func81, Tryz.ntmps81
    go_wp2_with fail
    go_ret
    exact .inl ⟨rfl, grow_refl _ _, s, k, HK.out⟩
  rw [if_neg c1] at hnum
  by_cases c2 : s ∈ L
  · rw [if_pos c2] at hnum
    rw [hnum] at hlk
    have HL := Lib.hid c2
    clear hnum hS ih hs hl hall HG c1 c2
    go_enter Tryz.func81, Tryz.ntmps81
    go_wp2_with fail
    go_ret
    exact .inr ⟨rfl, grow_refl _ _, g, L, HS.out, HL.out, fun _ h => h, HI.out⟩
  rw [if_neg c2] at hnum
  rw [hnum] at hlk
  have hS1 := hS.enter hs hnum
  have hlen := hS1.len
  simp only [List.length_cons] at hlen
  obtain ⟨w1, hu1, hI1, hg1⟩ := HI.out.upd (hl s hs) (by unfold maxLen; omega) 1
  rw [show G.length + 2 * L.length + 1 = (s :: G).length + 2 * L.length by simp; omega] at hI1
  have HS1 := Lib.hid hS1
  have HI1 := Lib.hid hI1
  have HM1 := Lib.hid (HM.out.grown hg1)
  have HG1 := Lib.hid hg1
  have HIH := Lib.hid ih
  have HL := Lib.hid hl
  have HA := Lib.hid hall
  have HSa := Lib.hid hs
  have HLen := Lib.hid hlen
  have p1 := HM1.out.p
  clear hnum hS1 hI1 hg1 ih hl hall hs hlen c1 c2 HS HI hS
  go_enter Tryz.func81, Tryz.ntmps81
  go_wp2_with fail
  clear hlk hu1 t0 p1
  go_loopw [21] (fun i wr => ∃ k : Nat, i = .int .i64 k ∧ k ≤ ms.length ∧ Hid (w.grownBy wr (some mb)) ∧ Hid (∃ g' L', Srch (edge ms) all g' (s :: G) L' ∧ (∀ x ∈ L, x ∈ L') ∧ (∀ m ∈ ms.take k, m.frm = s → m.most = 0 → m.to_ ∈ L') ∧ SI wr mb ((s :: G).length + 2 * L'.length) g')) (fun i _ => ms.length - (intOf i).toNat)
  case atStart => exact ⟨0, rfl, Nat.zero_le _, HG1.out, _, L, HS1.out, fun _ h => h, fun m hm => by simp at hm, HI1.out⟩
  case round =>
    obtain ⟨k, rfl, hk, HGr, HX⟩ := hrel
    obtain ⟨g', L', hS', hLL, hT, hI'⟩ := HX.out
    have HMr := Lib.hid (HM.out.grown HGr.out)
    have t0 := HMr.out.t
    by_cases hlt : k < ms.length
    · have hcl : (k : Int) < (ms.length : Int) := by omega
      have HTk := Lib.hid (show ms.take (k + 1) = ms.take k ++ [ms[k]] from List.take_succ_eq_append_getElem hlt)
      have HAk := Lib.hid (HA.out ms[k] (List.getElem_mem hlt))
      have HIn := Lib.hid (List.getElem_mem hlt)
      obtain ⟨b, o, e0, hx⟩ := mv_at HMr.out.m hlt
      subst e0
      generalize ms[k] = x at hx HTk HAk HIn
      obtain ⟨xn, xf, xt, xw, x1, x2, x3, x4⟩ := x
      obtain ⟨c0, c1, c2, c3, c4, c5, c6, c7⟩ := hx
      simp only at c0 c1 c2 c3 c4 c5 c6 c7 HAk
      have hal := fun ob => grow_ext (r := some mb) (ext_alloc wr ob)
      have f0 : ∀ ob, (wr.alloc ob).cell? ⟨fb, 0, none⟩ = _ := fun ob => (HMr.out.grown (hal ob)).f
      by_cases d1 : xf = s
      · subst d1
        by_cases d2 : x4 = 0
        · subst d2
          have HCa := Lib.hid (fun ob => HIH.out (xf :: G) L' g' xt (wr.alloc ob) (by have := nodup_le _ _ (topo_nodup _ HS1.out.topo) hLL; simp; omega) hS' (fun v hv => by
            rcases List.mem_cons.1 hv with e | hv
            · subst e
              exact ⟨0, _, HIn.out, rfl, rfl, rfl⟩
            · obtain ⟨k, hk⟩ := HG.out v hv
              exact rch_app k 0 hk ⟨_, HIn.out, rfl, rfl, rfl⟩) HAk.out.2 (HMr.out.grown (hal ob)) (hI'.ext (ext_alloc wr ob)))
          have HAl := Lib.hid hal
          have HLL := Lib.hid hLL
          have HT := Lib.hid hT
          clear hal hLL hT hS' hI' HX
          go_wp2_with fail
          refine (HCa.out _).mono ?_
          rintro e w' (⟨rfl, hgr, hv⟩ | ⟨rfl, hgr, g2, L2, hS2, hin, hLL2, hI2⟩)
          · have HGe := Lib.hid (grow_trans HGr.out (grow_trans (HAl.out _) hgr))
            have HV := Lib.hid hv
            clear hgr hv f0 c0 c1 c2 c3 c4 c5 c6 c7 t0
            go_wp2_with fail
            go_ret
            exact .inl ⟨rfl, HGe.out, HV.out⟩
          · have HGe := Lib.hid (grow_trans HGr.out (grow_trans (HAl.out _) hgr))
            have HX2 := Lib.hid (show ∃ g' L', Srch (edge ms) all g' (xf :: G) L' ∧ (∀ x ∈ L, x ∈ L') ∧ (∀ m ∈ ms.take (k + 1), m.frm = xf → m.most = 0 → m.to_ ∈ L') ∧ SI w' mb ((xf :: G).length + 2 * L'.length) g' from ⟨g2, L2, hS2, fun x hx => hLL2 x (HLL.out x hx), fun m hm h1 h2 => by
              rw [HTk.out] at hm
              rcases List.mem_append.1 hm with hm | hm
              · exact hLL2 _ (HT.out m hm h1 h2)
              · obtain rfl := List.mem_singleton.1 hm
                exact hin, hI2⟩)
            clear hgr hS2 hin hLL2 hI2 f0 c0 c1 c2 c3 c4 c5 c6 c7 t0
            go_wp2_with fail
            go_roundw
            case rel => exact ⟨k + 1, by go_num, by omega, HGe.out, HX2.out⟩
            case measure => simp [intOf]; omega
        · have d2' : (x4 == 0) = false := by simp [d2]
          have HGe := Lib.hid (fun ob => grow_trans HGr.out (hal ob))
          have HX2 := Lib.hid (show ∀ ob, ∃ g' L', Srch (edge ms) all g' (xf :: G) L' ∧ (∀ x ∈ L, x ∈ L') ∧ (∀ m ∈ ms.take (k + 1), m.frm = xf → m.most = 0 → m.to_ ∈ L') ∧ SI (wr.alloc ob) mb ((xf :: G).length + 2 * L'.length) g' from fun ob => ⟨g', L', hS', hLL, fun m hm h1 h2 => by
              rw [HTk.out] at hm
              rcases List.mem_append.1 hm with hm | hm
              · exact hT m hm h1 h2
              · obtain rfl := List.mem_singleton.1 hm
                exact absurd h2 d2, hI'.ext (ext_alloc wr ob)⟩)
          clear hal hLL hT hS' hI' HX d2
          go_wp2_with fail
          go_roundw
          case rel => exact ⟨k + 1, by go_num, by omega, HGe.out _, HX2.out _⟩
          case measure => simp [intOf]; omega
      · have d1' : (xf == s) = false := by simp [d1]
        have HGe := Lib.hid (fun ob => grow_trans HGr.out (hal ob))
        have HX2 := Lib.hid (show ∀ ob, ∃ g' L', Srch (edge ms) all g' (s :: G) L' ∧ (∀ x ∈ L, x ∈ L') ∧ (∀ m ∈ ms.take (k + 1), m.frm = s → m.most = 0 → m.to_ ∈ L') ∧ SI (wr.alloc ob) mb ((s :: G).length + 2 * L'.length) g' from fun ob => ⟨g', L', hS', hLL, fun m hm h1 h2 => by
              rw [HTk.out] at hm
              rcases List.mem_append.1 hm with hm | hm
              · exact hT m hm h1 h2
              · obtain rfl := List.mem_singleton.1 hm
                exact absurd h1 d1, hI'.ext (ext_alloc wr ob)⟩)
        clear hal hLL hT hS' hI' HX d1
        go_wp2_with fail
        go_roundw
        case rel => exact ⟨k + 1, by go_num, by omega, HGe.out _, HX2.out _⟩
        case measure => simp [intOf]; omega
    · have hcl : ¬ (k : Int) < (ms.length : Int) := by omega
      have hk2 : ms.take k = ms := List.take_of_length_le (by omega)
      rw [hk2] at hT
      have hl2 := hS'.len
      obtain ⟨w2, hu2, hI2, hg2⟩ := hI'.upd (HL.out s HSa.out) (by have := ha; unfold maxLen; omega) 2
      have HPo := Lib.hid (show ∃ g' L', Srch (edge ms) all g' G L' ∧ s ∈ L' ∧ (∀ x ∈ L, x ∈ L') ∧ SI w2 mb (G.length + 2 * L'.length) g' from ⟨_, s :: L', hS'.leave fun t ⟨m, hm, h1, h2, h3⟩ => h3 ▸ hT m hm h1 h2, List.mem_cons_self, fun x hx => List.mem_cons_of_mem _ (hLL x hx), by
        have e : G.length + 2 * (s :: L').length = (s :: G).length + 2 * L'.length + 1 := by simp; omega
        rw [e]
        exact hI2⟩)
      have HGe := Lib.hid (grow_trans HGr.out hg2)
      clear hT hS' hLL hI' HX hl2 hI2 hg2 hk2
      go_wp2_with fail
      go_ret
      exact .inr ⟨rfl, HGe.out, HPo.out⟩
set_option maxRecDepth 100000 in
set_option maxHeartbeats 4000000 in
theorem ring1_any (ms : List Mv) (hms : ms.length ≤ 1000) (all : List (List UInt8)) (ha : all.length ≤ 1000) (hl : ∀ s ∈ all, s.length ≤ 9223372036854775807) (hall : ∀ m ∈ ms, m.frm ∈ all ∧ m.to_ ∈ all) (tb mb pb fb : Nat) (A : Option Addr) (c : Nat) :
    ∀ (f : Nat) (G L : List (List UInt8)) (g : List UInt8 → Option Int) (s : List UInt8) (w : World), Srch (edge ms) all g G L → (∀ v ∈ G, ∃ k, Rch (edge ms) k v s) → s ∈ all → all.length ≤ G.length + L.length + f → RgM w ms tb mb pb fb A c → SI w mb (G.length + 2 * L.length) g →
    Calls Tryz.prog 81 #[.string ⟨s.toArray⟩, .pointer (some ⟨tb, 0, none⟩), .pointer (some ⟨pb, 0, none⟩), .pointer (some ⟨fb, 0, none⟩)] w (RgPost ms all mb G L s w) := by
  intro f
  induction f with
  | zero =>
    intro G L g s w hS hG hs hf hM hI
    exact ring1_at ms hms all ha hl hall tb mb pb fb A c G L g s w hS hG hs hM hI fun G' L' g' s' w' hlt h1 => absurd h1.len (by omega)
  | succ f ih =>
    intro G L g s w hS hG hs hf hM hI
    exact ring1_at ms hms all ha hl hall tb mb pb fb A c G L g s w hS hG hs hM hI fun G' L' g' s' w' hlt h1 h2 h3 h4 h5 => ih G' L' g' s' w' h1 h2 h3 (by omega) h4 h5
end Go.Proofs.YtjfiodknjchngaaGreatDoor.Ce
