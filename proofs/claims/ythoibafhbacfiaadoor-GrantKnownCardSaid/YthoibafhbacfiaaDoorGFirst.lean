/-
  Package grant: asked; the first rule that is broken; the session that is born.
-/
import Derived.Test.YthoibafhbacfiaaDoorGRules
import Derived.Test.YthoibafhbacfiaaDoorQuietTail
import Derived.BigRegion
namespace Go.Proofs.YthoibafhbacfiaaDoor
set_option maxRecDepth 100000
open Go.RowKit

section
variable {P : Program} {ops : Array Oper} {rest : List Oper} {o' : Oper} {a : Act} {w : World} {Q : Exit → Act → World → Prop}
/-- A struct or an array, built: its cells by name. -/
theorem wpList_build_as {ty : TypeId} {parts : Array (Nat × Operand)} {ps : Array (Nat × Value)} {vs : Array Value} (ho : o'.op = .build ty parts) (hw : Region.wanted o' (yielded ops a.tmps) = true) (hp : (parts.map fun (i, x) => (i, a.eval x)) = ps) (hb : P.built ty ps.toList = some vs)
    (hK : wpList P ops Q rest (a.put o'.dst (.agg vs)) w) : wpList P ops Q (o' :: rest) a w :=
  wpList_want hw fun K hK' => by
    refine wp_build ty parts ho (by rw [hp, hb]; rfl) ?_
    rw [hp, hb]
    exact hK' _ _ hK
end
theorem bel_alloc {w0 w : World} (h : Below w0.heap.size w0 w) (x : Obj) : Below w0.heap.size w0 (w.alloc x) := h.alloc h.size x
theorem built_zeroS : Tryd.prog.built 31 (#[] : Array (Nat × Value)).toList = some Sess.zero.cells := by kernel_rfl
/-- A birth that is asked. -/
def askedB (p : Sess) (r : Req) (now births : Int) (full : Bool) (d : Int) : Bir := ⟨p, r, now, births, full, d⟩
theorem built_bir (p : Sess) (r : Req) (now births : Int) (full : Bool) : Tryd.prog.built 70 (#[(0, .agg p.cells), (1, .agg r.cells), (2, .int .i64 now), (3, .int .i64 births), (4, .bool full)] : Array (Nat × Value)).toList = some (askedB p r now births full 0).cells := by kernel_rfl
theorem asked_set (p : Sess) (r : Req) (now births : Int) (full : Bool) (d e : Int) : (askedB p r now births full d).cells.setIfInBounds 20 (.int .i64 e) = (askedB p r now births full e).cells := rfl
set_option maxHeartbeats 1000000 in
theorem asked_any (p : Sess) (r : Req) (now births : Int) (full : Bool) (most : Int) (w : World) :
    Calls Tryd.prog 17 #[.agg p.cells, .agg r.cells, .int .i64 now, .int .i64 births, .bool full, .int .i64 most] w fun e w' =>
      Below w.heap.size w w' ∧ ∃ b, w.heap.size ≤ b ∧ e = .returned (.pointer (some ⟨b, 0, none⟩)) ∧ Blk w' b 70 (askedB p r now births full (tillZ now r.life most)).cells := by
  have HUP := Lib.hid Tryd.underlying31
  have HUR := Lib.hid Tryd.underlying25
  have HT := Lib.hid (until_any now r.life most)
  obtain ⟨d, hd⟩ : ∃ d, tillZ now r.life most = d := ⟨_, rfl⟩
  rw [hd] at HT ⊢
  clear hd
  unfold untilV at HT
  have b0 := (Blk.new w 31 p.cells).alloc (.cells r.cells 25)
  have b1 := Blk.new (w.alloc (.cells p.cells 31)) 25 r.cells
  have HP := Lib.hid b0.row
  have HR := Lib.hid b1.row
  have B2 := Lib.hid (Blk.new ((w.alloc (.cells p.cells 31)).alloc (.cells r.cells 25)) 70 (askedB p r now births full 0).cells)
  have B1 := Lib.hid (b1.alloc (.cells (askedB p r now births full 0).cells 70))
  clear b0 b1
  have B3 := Lib.hid (Blk.new ((w.alloc (.cells p.cells 31)).alloc (.cells r.cells 25)) 70 (askedB p r now births full d).cells)
  have B3 := Lib.hid (show Blk _ (w.heap.size + 1 + 1) _ _ from by have := B3.out; simpa using this)
  have B2 := Lib.hid (show Blk _ (w.heap.size + 1 + 1) _ _ from by have := B2.out; simpa using this)
  have c4 := (B1.out.cell 4).trans r.c4
  by_cases h0 : d = 0
  · rw [if_pos h0] at HT
    subst h0
    unfold errno at HT
    go_enter Tryd.func17, Tryd.ntmps17
    go_wp2_with (first
      | (refine wpList_load_at (ty := 31) rfl rfl rfl HP.out HUP.out rfl sessInfo ?_)
      | (refine wpList_load_at (ty := 25) rfl rfl rfl HR.out HUR.out rfl reqInfo ?_)
      | (refine wpList_build_as (ps := #[(0, .agg p.cells), (1, .agg r.cells), (2, .int .i64 now), (3, .int .i64 births), (4, .bool full)]) rfl rfl (by simp [Act.eval, Act.put, Req.cells, Sess.cells]) (built_bir p r now births full) ?_)
      | (go_at_call 43; refine (HT.out _).mono ?_; rintro e w' ⟨rfl, rfl⟩))
    go_ret
    exact ⟨bel_alloc (bel_alloc (bel_alloc (Below.refl _ _) _) _) _, w.heap.size + 1 + 1, by omega, rfl, B2.out⟩
  · rw [if_neg h0] at HT
    go_enter Tryd.func17, Tryd.ntmps17
    go_wp2_with (first
      | (refine wpList_load_at (ty := 31) rfl rfl rfl HP.out HUP.out rfl sessInfo ?_)
      | (refine wpList_load_at (ty := 25) rfl rfl rfl HR.out HUR.out rfl reqInfo ?_)
      | (refine wpList_build_as (ps := #[(0, .agg p.cells), (1, .agg r.cells), (2, .int .i64 now), (3, .int .i64 births), (4, .bool full)]) rfl rfl (by simp [Act.eval, Act.put, Req.cells, Sess.cells]) (built_bir p r now births full) ?_)
      | (go_at_call 43; refine (HT.out _).mono ?_; rintro e w' ⟨rfl, rfl⟩))
    go_ret
    exact ⟨bel_alloc (bel_alloc (bel_alloc (Below.refl _ _) _) _) _, w.heap.size + 1 + 1, by omega, rfl, B3.out⟩
end Go.Proofs.YthoibafhbacfiaaDoor
