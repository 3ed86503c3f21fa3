/-
  The audit: what the document's Check answers, and rules for its regions.
-/
import Derived.Test.YtahcedpfnechfaaDoorAudRX
import Derived.Deep.RegionHeld
namespace Go.Proofs.YtahcedpfnechfaaDoor
set_option maxRecDepth 100000
open Go.RowKit Go.Sort

theorem yieldsIf_rowA {P : Program} {ops : Array Oper} {S : World → Prop} {o' : Oper} {a : Act} {ty : TypeId} {x : Operand} (hw : Region.wanted o' (yielded ops a.tmps) = true) (ho : o'.op = .load ty x)
    {g o : Nat} {cs : Array Value} {d : TypeDesc} (hx : a.eval x = .pointer (some ⟨g, o, none⟩)) (h : ∀ w, S w → RowAt w g o cs) (hu : P.underlying ty = some d) (hd : isAggD d = true) (hi : (P.info? ty).map (·.size) = some cs.size) : YieldsIf P ops S o' (.agg cs) a := by
  refine .inl ⟨hw, fun w hS => ?_⟩
  unfold execOp
  simp only [ho, hx, Sem.run_bind, run_loadAt_at w hu hd hi (h w hS), Result.andThen_ok, Sem.run_pure]
theorem yieldsIf_intA {ops : Array Oper} {S : World → Prop} {o' : Oper} {a : Act} {x : Operand} (hw : Region.wanted o' (yielded ops a.tmps) = true) (ho : o'.op = .load 3 x)
    {g o : Nat} {k : Int} (hx : a.eval x = .pointer (some ⟨g, o, none⟩)) (h : ∀ w, S w → w.cell? ⟨g, o, none⟩ = some (.int .i64 k)) : YieldsIf Tryd.prog ops S o' (.int .i64 k) a := by
  refine .inl ⟨hw, fun w hS => ?_⟩
  have c := h w hS
  unfold execOp
  simp only [ho, hx]
  go_simp
theorem step_store_blkA {P : Program} {w : World} {ops : Array Oper} {o' : Oper} {a : Act} {K : Act → World → Prop} {Q : Exit → Act → World → Prop} {E : Prop} {t : TypeId} {cur vs : Array Value} {ty : TypeId} {x y : Operand} {g : Nat} (hw : Region.wanted o' (yielded ops a.tmps) = true) (ho : o'.op = .store ty x y)
    (hx : a.eval x = .pointer (some ⟨g, 0, none⟩)) (hy : a.eval y = .agg vs) (hB : Blk w g t cur) (hfit : vs.size = cur.size) (h1 : ∀ v ∈ vs.toList, v.oneCell' = true) (hi : (P.info? ty).map (·.size) = some vs.size)
    (hK : K (a.put o'.dst undef) (w.setRow g vs)) : if Region.wanted o' (yielded ops a.tmps) = true then Oper.wp P o' a w K Q else E := by
  rw [if_pos hw]
  unfold Oper.wp execOp
  simp only [ho, hx, hy, Instr.storeAt, Instr.sureAddr, Sem.run_bind, Sem.run_pure, Result.andThen_ok, run_storeVar_at _ hi hB (by omega : 0 + vs.size ≤ cur.size) h1, splice_all hfit]
  exact hK
theorem takeA {P : Program} {md : Region.Mode} {ops : Array Oper} {Q : Exit → Act → World → Prop} {S : World → Prop} (d : Option Tmp) (l' : Array Bool) {i : Nat} {oi : Oper} {v : Value} {fuel : Nat} {listed : Array Bool} {a : Act} {w : World} (hi : ops[i]? = some oi)
    (hs : Region.noSelect ops = true) (hf : Region.free md ops listed i = true) (hr : (Region.ready md ops listed).contains i = true)
    (hQ : ∀ c a w, Q (.panic c) (a.put oi.dst v) w → Q (.panic c) a w) (hy : YieldsIf P ops S oi v a) (hS : S w) (hd : oi.dst = d) (hl : listed.setIfInBounds i true = l')
    (h : wpAnyH P md ops Q S fuel l' (a.put d v) w) : wpAnyH P md ops Q S (fuel + 1) listed a w := by
  subst hd hl
  exact wpAnyH_take hi hs hf hr hQ hy hS h
/-- The last one of a region, a store of a whole block. -/
theorem lastStoreA {P : Program} {md : Region.Mode} {ops : Array Oper} {Q : Exit → Act → World → Prop} {S : World → Prop} {i : Nat} {o' : Oper} {fuel : Nat} {listed : Array Bool} {a : Act} {w : World} (hr : Region.ready md ops listed = [i]) (hi' : ops[i]? = some o')
    (hr2 : Region.ready md ops (listed.setIfInBounds i true) = []) (hd : o'.dst = none) {t : TypeId} {cur vs : Array Value} {ty : TypeId} {x y : Operand} {g : Nat} (hw : Region.wanted o' (yielded ops a.tmps) = true) (ho : o'.op = .store ty x y)
    (hx : a.eval x = .pointer (some ⟨g, 0, none⟩)) (hy : a.eval y = .agg vs) (hB : Blk w g t cur) (hfit : vs.size = cur.size) (h1 : ∀ v ∈ vs.toList, v.oneCell' = true) (hi : (P.info? ty).map (·.size) = some vs.size) (hS : S (w.setRow g vs))
    (h : Q .normal a (w.setRow g vs)) : wpAnyH P md ops Q S (fuel + 1) listed a w := by
  refine wpAnyH_ready hr (by simp) ?_
  refine AllReadyH.cons hi' (fun K hK => ?_) AllReadyH.nil
  refine step_store_blkA hw ho hx hy hB hfit h1 hi ?_
  rw [hd]
  exact hK.out _ _ hS (fun _ => wpAnyH_done hr2 h _)
theorem results_tta {P : Program} {fn : Func} {a b p : Tmp} {ty : TypeId} (h : fn.results = #[.tmp a, .tmp b, .cell p ty]) {tmps : Array Value} {w : World} {g o : Nat} {cs : Array Value} {d : TypeDesc} (hp : tmps.getD p undef = .pointer (some ⟨g, o, none⟩)) (hr : RowAt w g o cs)
    (hu : P.underlying ty = some d) (hd : isAggD d = true) (hi : (P.info? ty).map (·.size) = some cs.size) : (results fn tmps).run P w = .ok (.tuple #[tmps.getD a undef, tmps.getD b undef, .agg cs]) w := by
  have hp' : tmps[p]?.getD undef = .pointer (some ⟨g, o, none⟩) := by simpa using hp
  simp [results, h, hp', asAddr, run_loadVar_at w hu hd hi hr]
theorem grownBy_setRow (w : World) (g : Nat) (cs : Array Value) : w.grownBy (w.setRow g cs) (some g) :=
  ⟨rfl, rfl, rfl, by simp [World.setRow], fun k _ hk => setRow_other w g k cs (fun e => hk (by rw [e]))⟩
theorem lookInfo : (Tryd.prog.info? 28).map (·.size) = some 40 := by kernel_rfl
theorem lookC_size {dc t : List Value} {M : List Int} (hd : dc.length = 6) (hM : M.length = 32) (ht : t.length = 2) : (lookC dc M t).size = 40 := by
  unfold lookC
  rw [List.size_toArray, List.length_append, List.length_append, List.length_map, hd, hM, ht]
theorem tR_len (o : Option Int) : (tR o).length = 2 := by cases o <;> rfl
theorem lookC_one {d : DumpV} {As : Option Addr} {cs : Nat} {Af : Option Addr} {cf : Nat} {M : List Int} {o : Option Int} : ∀ v ∈ (lookC (d.dc As cs Af cf) M (tR o)).toList, v.oneCell' = true := by
  intro v hv
  unfold lookC at hv
  simp only [List.mem_append, List.mem_map] at hv
  rcases hv with hv | ⟨x, _, rfl⟩ | hv
  · exact dc_one d As cs Af cf v (by simpa using hv)
  · rfl
  · cases o <;> simp [tR] at hv <;> rcases hv with rfl | rfl <;> rfl
/-- The error, and where. -/
def checkNo (d : DumpV) : Int × Int := if argOk d then (match (lookX d).1 with | none => (0, 0) | some a => (24, a)) else (1, 0)
def lookR (d : DumpV) : Option Int × List Int := if argOk d then lookX d else (none, M0)
def RetRC (d : DumpV) (As : Option Addr) (cs : Nat) (Af : Option Addr) (cf : Nat) (w : World) : Ending → World → Prop := fun e w' => e = .returned (.tuple #[.int .i64 (checkNo d).1, .int .i64 (checkNo d).2, .agg (lookC (d.dc As cs Af cf) (lookR d).2 (tR (lookR d).1))]) ∧ Below w.heap.size w w'
end Go.Proofs.YtahcedpfnechfaaDoor
