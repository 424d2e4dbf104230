import Derived.Test.YtdlemoeinjihkaaGreatDoorRows
import Derived.Test.YtdlemoeinjihkaaGreatDoorCards
import Derived.Test.YtdlemoeinjihkaaGreatDoorTie
import Derived.Test.YtdlemoeinjihkaaGreatDoorTqW
import Derived.Test.YtdlemoeinjihkaaGreatDoorZo
import Derived.Test.YtdlemoeinjihkaaGreatDoorZa
import Derived.WalkKit
import Derived.ProofKit
import Derived.OpenShut
import Derived.SizedLaws
import Derived.LaidMore
import Derived.Lay
import Derived.SevenTiedAt
import Derived.Stop.Joined
import Derived.Stop.LaidErr
import Derived.Lib.LaidTab

namespace Go.Proofs.YtdlemoeinjihkaaGreatDoor.topSerial
open Go.ChangeShapes Go.WideShapes Go.ChangeAt Go.RowKit Go.S Go.Proofs.YtdlemoeinjihkaaGreatDoor
set_option linter.unusedVariables false

theorem own : ownKnob Tryz.prog.godebug = none := by kernel_rfl
set_option maxRecDepth 100000 in
theorem qkU : laidOutB Tryz.prog = true := by kernel_rfl

set_option maxRecDepth 100000 in
theorem qmd {w : World} {cs : List Value} (h : Rd Tryz.prog w 22 cs) : ∃ (v : Value) (l : List TWish), cs = [v] ∧ At w v 4 (l.map TWish.row) := by
  obtain ⟨v, rows, rfl, hat, hr⟩ := h.slice (k := 4) Tryz.underlying22 (by kernel_rfl)
  obtain ⟨l, rfl, hq⟩ := kB (f := TWish.row) (Q := fun _ => True) (fun r hrm => by
    have hR := hr r hrm
    obtain ⟨r0, r1, r2, r3, rfl⟩ := qpz ((hR.struct Tryz.underlying35).1.trans (by kernel_rfl))
    have h0 := hR.fld Tryz.underlying35 0 3 0 1 rfl (by kernel_rfl)
    have h1 := hR.fld Tryz.underlying35 1 3 1 1 rfl (by kernel_rfl)
    have h2 := hR.fld Tryz.underlying35 2 3 2 1 rfl (by kernel_rfl)
    have h3 := hR.fld Tryz.underlying35 3 9 3 1 rfl (by kernel_rfl)
    obtain ⟨a, ha, _⟩ := h0.int (by kernel_rfl)
    obtain ⟨b, hb, _⟩ := h1.int (by kernel_rfl)
    obtain ⟨c, hc, _⟩ := h2.int (by kernel_rfl)
    obtain ⟨t, ht, _⟩ := h3.str (by kernel_rfl)
    have e0 : r0 = .int .i64 a := (List.cons.inj ha).1
    have e1 : r1 = .int .i64 b := (List.cons.inj hb).1
    have e2 : r2 = .int .i64 c := (List.cons.inj hc).1
    have e3 : r3 = st t := (List.cons.inj ht).1
    exact ⟨⟨a, b, c, t⟩, by rw [e0, e1, e2, e3]; rfl, trivial⟩)
  exact ⟨v, l, rfl, hat⟩
theorem qiY {w w' : World} {v : Value} {k : Nat} {rows : List (List Value)} (h : At w v k rows) (hb : RowKit.Below w.heap.size w w') : At w' v k rows := by
  refine ⟨h.shape, h.len, fun i r j x h1 h2 => ?_⟩
  have hx := h.cell i r j x h1 h2
  have hblk : ((adr v).add (i * k + j)).block = (adr v).block := by unfold Addr.add; split <;> rfl
  have hlt := World.block_lt_of_cell? w _ hx
  rw [World.cell?_of_block (w := w)]
  · exact hx
  · exact hb.block _ hlt

set_option maxRecDepth 100000 in
theorem lifted (os : Os) (started : os.Started) (H : Type) (enc : TypeId × Value → H) :
    ReturnsInHanded {} Tryz.checked os 3 .any (fun w args => (Rows.topSerialSpec.pre enc Tryz.prog Tryz.f3 Rows.topSerialRow.domain false w args ∧ laidMetH Tryz.prog Rows.topSerialRow.laid w) ∧ sizedMet enc Tryz.prog Tryz.f3 (OpenSpec.ofChange Rows.topSerialSpec) false w args)
      (Rows.topSerialSpec.post enc Tryz.prog Tryz.f3 false true false false) := by
  refine returnsInHanded_of_change_and (C := Tryz.checked) (X := fun w _ => laidMetH Tryz.prog Rows.topSerialRow.laid w) (fun _ _ _ hh h => h.of_heap hh) own started (by kernel_rfl) Tryz.func3
    (ChangeSpec.witness_shaped (enc := enc) (C := Tryz.checked) (os := os) (X := fun w _ => laidMetH Tryz.prog Rows.topSerialRow.laid w) false (World.laidAll Tryz.prog os Rows.topSerialRow.laid) #[.slice none 0 0] 8 (World.laidAll_os _ _ _)
      (World.shaped_of_ZipB (by kernel_rfl) (by kernel_rfl)) (by kernel_rfl) (by kernel_rfl) (by kernel_rfl)
      (by rw [MakeChecks.laidMetH_plain _ _ _ (by kernel_rfl)]; exact laidMet_laidAll _ (by kernel_rfl) (by kernel_rfl))) ?_
  intro W base args ds gs before hval0 hW _ hz hL hL2
  have hW' := hW
  obtain ⟨p, q, hA0, hV, rfl, _, _⟩ := hW
  have hA : DataW.TrodAll enc Tryz.prog W 0 (fun _ => true) true Tryz.f3.params.toList args.toList ds p := hA0
  rw [Tryz.params3] at hA
  obtain ⟨v0, vs0, d0, ds0, p0, q0, hargs, rfl, rfl, h0, r0⟩ := trodAll_cons hA
  obtain ⟨rfl, rfl, rfl⟩ := trodAll_nil r0
  obtain rfl : args = #[v0] := by cases args; simp_all
  obtain ⟨rfl, rfl⟩ := trodVars_none hV
  obtain ⟨a, n, c, rfl⟩ := okWide_slice Tryz.underlying22 (hval0 0 22 v0 rfl rfl)
  obtain ⟨v, l, hv, hat⟩ := qmd (Rd.of h0)
  obtain rfl : .slice a n c = v := (List.cons.inj hv).1
  clear hA0 hval0
  have hll := hat.le
  rw [List.length_map] at hll
  simp only [maxLen] at hll
  have hL' : laidMet Tryz.prog Rows.topSerialRow.laid W := by rw [MakeChecks.laidMetH_plain _ _ _ (by kernel_rfl)] at hL; exact hL
  have hT : Lib.TabIs Tryz.prog W "internal/strconv.uint64pow10" .u64 Lib.pow10Tab := Lib.tabIs_of_head rfl rfl rfl rfl rfl rfl hL'.tail.tail
  refine Calls.mono (W3 l _ (fun w' => RowKit.Below W.heap.size W w') W hT (Stb.f fun w' h => h) true (qbK l (by omega)) (fun w' hk _ => qiY hat hk)) ?_
  rintro e W' ⟨u, m, rfl, ⟨rfl, rfl⟩, hc⟩
  exact ⟨_, rfl, qiD qkU (by kernel_rfl) rfl (by kernel_rfl) rfl ⟨rfl, rfl, rfl⟩ hW' hc.below⟩

theorem over : Rows.topSerialRow.holds Tryz.pinned (OpenSpec.ofChange Rows.topSerialSpec) :=
  OpenClaim.holds_of_wide 3 Tryz.f3 rfl rfl rfl rfl rfl rfl rfl ⟨rfl, rfl, rfl, rfl, rfl⟩ rfl rfl rfl rfl rfl (by kernel_rfl) Tryz.func3 closed
    (of_decide_eq_true (by kernel_rfl)) (by unfold Func.isWrapper; first | (rw [if_pos (by decide +kernel)]; kernel_rfl) | (rw [if_neg (by decide +kernel)]; exact ⟨rfl, rfl⟩))
    (fun os started H enc _ => lifted os started H enc)

theorem proved : Rows.TopSerialCardSaid :=
  Claim7.holds_tied_plain_at .later [] [.data, .data, .data, .data, .pinned] true (true, "8c7c7192fd57b103d6c3dac79c4eaf2c253896545c1ce9c42c98381061cc1de4") false over (fun _ h => by cases h) (by kernel_rfl) (fun _ h => by cases h) topSerial_row_tie rfl ⟨rfl, rfl⟩ (by kernel_rfl) rfl
    (fun f fn hf hfn => by
      obtain rfl : f = 3 := Option.some.inj ((show Tryz.prog.funcNamed "quirestock/quirtop.TopSerial" = some 3 by kernel_rfl).symm.trans hf) |>.symm
      obtain rfl : fn = Tryz.f3 := (Option.some.inj (Tryz.func3.symm.trans hfn)).symm
      exact ⟨by kernel_rfl, fun j t ht => by
        rw [Tryz.params3] at ht
        have hm : t ∈ [22] := by
          have := Array.mem_of_getElem? ht
          simpa using this
        have hall : ([22].all fun u => !Tryz.prog.wantsStandIn u) = true := by kernel_rfl
        exact (show Tryz.prog.wantsStandIn t = false by simpa using List.all_eq_true.1 hall t hm)⟩)
    (by kernel_rfl)
#print axioms proved
end Go.Proofs.YtdlemoeinjihkaaGreatDoor.topSerial
