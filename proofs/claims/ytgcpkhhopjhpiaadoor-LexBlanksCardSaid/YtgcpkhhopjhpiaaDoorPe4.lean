/- A part of the proof of: For every text q and every row of bytes b: LexBlanks(q, b) is true, and it ends without a panic. -/
import Derived.Test.YtgcpkhhopjhpiaaDoorPe3
import Derived.Lib.SliceRun
import Derived.Lib.Bytealg
import Derived.Laws.Externs
set_option linter.unusedSimpArgs false
set_option linter.unusedVariables false
set_option maxRecDepth 20000

namespace Go.Pe
section
variable {P : Program} {g : G} {w : World}

def cf0 : CF := fun _ _ _ => none
theorem cf0_sound : CFSound P cf0 := ⟨fun f args hp out h => by simp [cf0] at h, fun f args hp out h => by simp [cf0] at h⟩
theorem cf0_nice {pf : Nat → Bool} : CFNice pf cf0 := ⟨fun f args hp v hp' h => by simp [cf0] at h, fun f _ args hp v hp' h => by simp [cf0] at h, fun f _ args hp v hp' h => by simp [cf0] at h⟩

def clA : RCode := .reg [⟨some 2, none, .mv false (.c .nilsl)⟩] [] false
def clC (e : Nat) : RCode := .seq clA (.ret [.kill, .kill, .norm e])
def clD (e sz bytes : Nat) : RCode := .seq (.reg [⟨some 5, none, .bsl e sz []⟩, ⟨some 6, none, .mv false (.t 0)⟩, ⟨some 7, none, .app e sz bytes (.t 5) (.t 6)⟩, ⟨some 2, none, .mv true (.t 7)⟩] [] false) (.ret [.kill, .kill, .keep])

def clOps (t : TypeId) : List Oper → Bool
  | [o1, o2] => o1.dst == some 3 && o2.dst == some 4 && o1.guard.isNone && o2.guard.isNone && (match o1.op with | .move (.tmp 0) => true | _ => false) &&
      (match o2.op with | .binOp .eql t' (.tmp 3) (.const (.slice none 0 0)) _ => t' == t | _ => false)
  | _ => false

def cloneOk (P : Program) (f : Nat) (t e sz bytes : Nat) : Bool :=
  match P.funcs[f]? with
  | some fn => (fn.ntmps == 8 && bytes != 0) && (fn.name != "runtime.NumGoroutine") && resOk P fn.results.toList [.t 2] && (match P.underlying t with | some (.slice _) => true | _ => false) &&
    (match fn.body with
    | some (.seq c0 (.seq (.seq (.region _ ops false) (.cond (.tmp 4) c2 .skip)) c3)) => codeOk P (fun _ => false) c0 clA && clOps t ops.toList && codeOk P (fun _ => false) c2 (clC e) && codeOk P (fun _ => false) c3 (clD e sz bytes)
    | _ => false)
  | none => false

def cloneP (e sz bytes : Nat) : List PV → Option PV
  | [.d (.sl xs)] => if rowOk sz bytes [] xs then some (.own e xs) else none
  | [.nilsl] => some (.own e [])
  | _ => none

theorem nil_of {S : Nat → Nat → Prop} {xs : List D} {n cap : Nat} (h : DRep S w (.sl xs) (.slice none n cap)) : xs = [] := by
  cases h; rfl

theorem clone_run {f t e sz bytes : Nat} (hk : cloneOk P f t e sz bytes = true) {xs : List D} (hr : rowOk sz bytes [] xs = true) {g : G} {w : World} {v : Value} (hv : DRep g.stab w (.sl xs) v) :
    Calls P f #[v] w fun en w' => ∃ u g', en = .returned u ∧ Chg (fun _ => False) g w g' w' ∧ g'.nb = g.nb ∧ RepR P g' w' (.own e xs) u := by
  unfold cloneOk at hk
  split at hk
  · rename_i fn hf
    simp only [Bool.and_eq_true, beq_iff_eq] at hk
    obtain ⟨⟨⟨⟨⟨hnt, hbz⟩, _⟩, hres⟩, hun⟩, hbody⟩ := hk
    have hbz : bytes ≠ 0 := by simpa using hbz
    split at hbody
    · rename_i c0 i1 ops c2 c3 hc
      simp only [Bool.and_eq_true] at hbody
      obtain ⟨⟨⟨k0, k1⟩, k2⟩, k3⟩ := hbody
      unfold clOps at k1
      split at k1
      · rename_i o1 o2 hops
        simp only [Bool.and_eq_true, beq_iff_eq, Option.isNone_iff_eq_none] at k1
        obtain ⟨⟨⟨⟨⟨d1, d2⟩, g1⟩, g2⟩, m1⟩, m2⟩ := k1
        split at m1
        · rename_i p1
          split at m2
          · rename_i t' _ p2
            simp only [beq_iff_eq] at m2
            subst m2
            split at hun
            · rename_i et hun2
              obtain ⟨ad, cap, rfl, hcap⟩ := hv.sl_inv
              refine calls_of_wp hf hc ?_
              rw [hnt]
              have hargs : RepFs P g.bare w (.ret 0) [.d (.sl xs)] [.slice ad xs.length cap] :=
                RepFs.bare (l := .ret 0) (ps := [.d (.sl xs)]) rfl rfl (by simp only [RepFs, RepF, and_true]; exact hv)
              have hI := Inv.enter (P := P) (w := w) (g := g.bare) (hp := []) (l := .ret 0) (args := [.d (.sl xs)]) rfl hargs ⟨rfl, by simp, fun _ _ h => by simp at h⟩ 8
              have retcase : ∀ (s' : St) (q : PV), Pe.results s' [.t 2] = some q → q.flat = true → (∀ g u, RepR P g w q u → True) → (q = .own e xs ∨ (q = .nilsl ∧ xs = [])) →
                  ∀ g' w' a', Inv P g' w' a' s' → Chg Mine g.bare w g' w' → a'.defers = [] → bodyPost P fn (fun en w' => ∃ u g', en = .returned u ∧ Chg (fun _ => False) g w g' w' ∧ g'.nb = g.nb ∧ RepR P g' w' (.own e xs) u) .ret a' w' := by
                intro s' q hq hfl _ hqq g' w' a' hI' hc' hdf
                obtain ⟨u, g1, r1, r2, r3, r4⟩ := results_ok hI' hres (by simp) hq
                refine ⟨hdf, u, r1, u, g1.dress g, rfl, (hc'.trans r2).dress, rfl, ?_⟩
                have r5 := RepR.dress (g := g) hfl r3
                rcases hqq with rfl | ⟨rfl, rfl⟩
                · exact r5
                · have : u = .slice none 0 0 := by simpa only [RepR, RepF] using r5
                  subst this
                  simp only [RepR, RepF]
                  exact ⟨[], World.ownsRow_nil _ _ _ _, Flat.nil _ _ _, by simp [Value.ownBlock]⟩
              refine wp_seq (code_sound cf0_sound (pf := fun _ => false) cf0_nice 0 c0 clA k0 (s' := ⟨[.d (.sl xs), .dead, .nilsl, .dead, .dead, .dead, .dead, .dead], []⟩) (ex := .norm) rfl hI ?_)
              intro gA wA aA hIA hcA hdA
              refine wp_seq (wp_seq (wp_region ?_))
              have hoa : ops = #[o1, o2] := by apply Array.toList_inj.1; rw [hops]
              subst hoa
              have hrg : List.range (#[o1, o2] : Array Oper).size = [0, 1] := rfl
              rw [hrg]
              simp only [wpOps]
              have w1 : ∀ y, Region.wanted o1 y = true := fun y => by simp [Region.wanted, g1]
              have w2 : ∀ y, Region.wanted o2 y = true := fun y => by simp [Region.wanted, g2]
              have e1 : (#[o1, o2] : Array Oper)[0]? = some o1 := rfl
              have e2 : (#[o1, o2] : Array Oper)[1]? = some o2 := rfl
              simp only [e1, e2, w1, w2, if_true]
              refine .inl ((op_mv (m := false) (x' := .t 0) hIA (.inl p1) rfl (s1 := ⟨[.d (.sl xs), .dead, .nilsl, .dead, .dead, .dead, .dead, .dead], []⟩) (v := .d (.sl xs)) rfl d1 (s' := ⟨[.d (.sl xs), .dead, .nilsl, .d (.sl xs), .dead, .dead, .dead, .dead], []⟩) (by rw [d1]; rfl)).wp ?_)
              intro gB wB aB hIB hcB hdB
              have hAB := hcA.trans hcB
              have hdAB := hdB.trans hdA
              obtain ⟨ad2, cap2, hva, _⟩ := (x_toD hIB (x := .tmp 3) (y := .t 3) rfl (d := .sl xs) rfl).sl_inv
              have hv2 := x_toD hIB (x := .tmp 3) (y := .t 3) rfl (d := .sl xs) rfl
              rw [hva] at hv2
              have hq : ∀ y, (eqGuard .eql t' (.tmp 3) y (.slice ad2 xs.length cap2) (.slice none 0 0)).run P wB = .ok () wB := fun y => by unfold eqGuard; rfl
              have hex : (execOp aB.eval o2).run P wB = .ok (.value (.bool ad2.isNone)) wB := by
                have e4 : aB.eval (.const (.slice none 0 0)) = .slice none 0 0 := rfl
                unfold execOp
                simp only [p2, hva, e4, Sem.run_bind, hq, Result.andThen_ok, Sem.run_pure, Lib.run_eql_slice_nil wB _ _ _ _ _ _ _ hun2]
              refine .inl ((OpRes.value (l := .ret 0) hIB hex (v := .d (.bool ad2.isNone)) (s' := ⟨[.d (.sl xs), .dead, .nilsl, .d (.sl xs), .d (.bool ad2.isNone), .dead, .dead, .dead], []⟩) (by rw [d2]; rfl) rfl (by simp only [RepF]; exact .bool _)).wp ?_)
              intro gC wC aC hIC hcC hdC
              have hAC := hAB.trans hcC
              have hdAC := hdC.trans hdAB
              have hcv : aC.eval (.tmp 4) = .bool ad2.isNone := by
                have := (x_toD hIC (x := .tmp 4) (y := .t 4) rfl (d := .bool ad2.isNone) rfl)
                exact this.bool_inv
              cases ad2 with
              | none =>
                obtain rfl := nil_of hv2
                refine wp_cond_true hcv (code_sound cf0_sound (pf := fun _ => false) cf0_nice 0 c2 (clC e) k2 (s' := ⟨[.dead, .dead, .own e [], .dead, .dead, .dead, .dead, .dead], []⟩) (ex := .ret) rfl hIC ?_)
                intro g' w' a' hI' hc' hd'
                exact retcase _ (.own e []) rfl rfl (fun _ _ _ => trivial) (.inl rfl) g' w' a' hI' (hAC.trans hc') (hd'.trans hdAC)
              | some ad3 =>
                refine wp_cond_false hcv (wp_skip ?_)
                refine code_sound cf0_sound (pf := fun _ => false) cf0_nice 0 c3 (clD e sz bytes) k3 (s' := ⟨[.dead, .dead, .own e xs, .dead, .dead, .dead, .dead, .dead], []⟩) (ex := .ret) ?_ hIC ?_
                · have ha : ∀ s : St, s.tm.getD 5 .dead = .own e [] → s.tm.getD 6 .dead = .d (.sl xs) → appOp s e sz bytes (.t 5) (.t 6) = some (.own e xs, { s with tm := s.tm.set 5 .dead }) := by
                    intro s h1 h2
                    rw [appOp, if_neg hbz]; simp only [apqOp, St.x, h1, h2, PV.toD, if_true, hr, List.nil_append]
                  have hb : ∀ s : St, evOp cf0 (some 7) (.app e sz bytes (.t 5) (.t 6)) s = (appOp s e sz bytes (.t 5) (.t 6)).bind fun (v, s) => okPut s (some 7) v := fun _ => rfl
                  unfold clD
                  simp only [Option.isNone_some]
                  rw [show evCode cf0 0 (.seq (.reg [⟨some 5, none, .bsl e sz []⟩, ⟨some 6, none, .mv false (.t 0)⟩, ⟨some 7, none, .app e sz bytes (.t 5) (.t 6)⟩, ⟨some 2, none, .mv true (.t 7)⟩] [] false) (.ret [.kill, .kill, .keep])) ⟨[.d (.sl xs), .dead, .nilsl, .d (.sl xs), .d (.bool false), .dead, .dead, .dead], []⟩ =
                    (match ((match (appOp ⟨[.d (.sl xs), .dead, .nilsl, .d (.sl xs), .d (.bool false), .own e [], .d (.sl xs), .dead], []⟩ e sz bytes (.t 5) (.t 6)).bind fun (v, s) => okPut s (some 7) v with
                      | some (.ok s') => evOps cf0 [⟨some 2, none, .mv true (.t 7)⟩] s'
                      | x => x).bind (drawEnd false)).map (regEnd ⟨[.d (.sl xs), .dead, .nilsl, .d (.sl xs), .d (.bool false), .dead, .dead, .dead], []⟩ []) with
                    | some (.norm, s') => evCode cf0 0 (.ret [.kill, .kill, .keep]) s'
                    | r => r) from rfl]
                  rw [ha _ rfl rfl]
                  rfl
                intro g' w' a' hI' hc' hd'
                exact retcase _ (.own e xs) rfl rfl (fun _ _ _ => trivial) (.inl rfl) g' w' a' hI' (hAC.trans hc') (hd'.trans hdAC)
            · simp at hun
          · simp at m2
        · simp at m1
      · simp at k1
    · simp at hbody
  · simp at hk

theorem clone_ent {f t e sz bytes : Nat} (hk : cloneOk P f t e sz bytes = true) : entered P f = true := by
  unfold cloneOk at hk
  unfold entered
  split at hk
  · rename_i fn hf
    rw [hf]
    simp only [Bool.and_eq_true, beq_iff_eq] at hk ⊢
    obtain ⟨⟨⟨⟨hnt, h2⟩, hres⟩, hun⟩, hbody⟩ := hk
    split at hbody
    · rename_i c0 i1 ops c2 c3 hc
      exact ⟨by rw [hc]; rfl, h2⟩
    · simp at hbody
  · simp at hk

theorem clone_prim {f t e sz bytes : Nat} (hk : cloneOk P f t e sz bytes = true) : PrimSound P f (cloneP e sz bytes) where
  ent := clone_ent hk
  calls := by
    intro args v hv hfl hpl g w vals l ha
    unfold cloneP at hv
    split at hv
    · rename_i xs
      split at hv
      · rename_i hr
        simp only [Option.some.injEq] at hv
        subst hv
        match vals, ha with
        | [u], ha =>
          simp only [RepFs, RepF, and_true] at ha
          exact clone_run hk hr ha
      · simp at hv
    · simp only [Option.some.injEq] at hv
      subst hv
      match vals, ha with
      | [u], ha =>
        simp only [RepFs, RepF, and_true] at ha
        subst ha
        refine clone_run hk (xs := []) ?_ (.sl0 none 0)
        simp [rowOk, maxRow]
    · simp at hv
end
end Go.Pe

namespace Go.Pe
section
variable {P : Program} {g : G} {w : World}

def clE (e sz bytes : Nat) : RCode := .seq (.reg [⟨some 5, none, .bsl e sz []⟩, ⟨some 6, none, .mv false (.t 0)⟩, ⟨some 7, none, .apr e sz bytes (.t 5) (.t 6)⟩, ⟨some 2, none, .mv false (.t 7)⟩] [] false) (.ret [.kill, .kill, .keep])

def cloneMk (P : Program) (f : Nat) (t e sz bytes : Nat) : Bool :=
  match P.funcs[f]? with
  | some fn => fn.ntmps == 8 && (fn.name != "runtime.NumGoroutine") && resOk P fn.results.toList [.t 2] && (match P.underlying t with | some (.slice _) => true | _ => false) &&
    (match fn.body with
    | some (.seq c0 (.seq (.seq (.region _ ops false) (.cond (.tmp 4) c2 .skip)) c3)) => codeOk P (fun _ => false) c0 clA && clOps t ops.toList && codeOk P (fun _ => false) c2 (clC e) && codeOk P (fun _ => false) c3 (clE e sz bytes)
    | _ => false)
  | none => false

def cloneM (sz bytes : Nat) : List PV → Option (List D)
  | [.d (.sl xs)] => if rowOk sz bytes [] xs then some xs else none
  | _ => none

theorem cloneM_run {f t e sz bytes : Nat} (hk : cloneMk P f t e sz bytes = true) {xs : List D} (hr : rowOk sz bytes [] xs = true) {g : G} {w : World} {v : Value} (hv : DRep g.stab w (.sl xs) v) {hp : List Ent} (hH : HeapInv P g w hp) :
    Calls P f #[v] w (CallPost P g w (.ret (.rowh hp.length 0 xs.length) (hp ++ [rowEnt xs]))) := by
  unfold cloneMk at hk
  split at hk
  · rename_i fn hf
    simp only [Bool.and_eq_true, beq_iff_eq] at hk
    obtain ⟨⟨⟨⟨hnt, _⟩, hres⟩, hun⟩, hbody⟩ := hk
    split at hbody
    · rename_i c0 i1 ops c2 c3 hc
      simp only [Bool.and_eq_true] at hbody
      obtain ⟨⟨⟨k0, k1⟩, k2⟩, k3⟩ := hbody
      unfold clOps at k1
      split at k1
      · rename_i o1 o2 hops
        simp only [Bool.and_eq_true, beq_iff_eq, Option.isNone_iff_eq_none] at k1
        obtain ⟨⟨⟨⟨⟨d1, d2⟩, g1⟩, g2⟩, m1⟩, m2⟩ := k1
        split at m1
        · rename_i p1
          split at m2
          · rename_i t' _ p2
            simp only [beq_iff_eq] at m2
            subst m2
            split at hun
            · rename_i et hun2
              obtain ⟨ad, cap, rfl, hcap⟩ := hv.sl_inv
              refine calls_of_wp hf hc ?_
              rw [hnt]
              have hargs : RepFs P g w (.ret 0) [.d (.sl xs)] [.slice ad xs.length cap] := by simp only [RepFs, RepF, and_true]; exact hv
              have hI := Inv.enter (P := P) (w := w) (g := g) (hp := hp) (l := .ret 0) (args := [.d (.sl xs)]) rfl hargs hH 8
              refine wp_seq (code_sound cf0_sound (pf := fun _ => false) cf0_nice 0 c0 clA k0 (s' := ⟨[.d (.sl xs), .dead, .nilsl, .dead, .dead, .dead, .dead, .dead], hp⟩) (ex := .norm) rfl hI ?_)
              intro gA wA aA hIA hcA hdA
              refine wp_seq (wp_seq (wp_region ?_))
              have hoa : ops = #[o1, o2] := by apply Array.toList_inj.1; rw [hops]
              subst hoa
              have hrg : List.range (#[o1, o2] : Array Oper).size = [0, 1] := rfl
              rw [hrg]
              simp only [wpOps]
              have w1 : ∀ y, Region.wanted o1 y = true := fun y => by simp [Region.wanted, g1]
              have w2 : ∀ y, Region.wanted o2 y = true := fun y => by simp [Region.wanted, g2]
              have e1 : (#[o1, o2] : Array Oper)[0]? = some o1 := rfl
              have e2 : (#[o1, o2] : Array Oper)[1]? = some o2 := rfl
              simp only [e1, e2, w1, w2, if_true]
              refine .inl ((op_mv (m := false) (x' := .t 0) hIA (.inl p1) rfl (s1 := ⟨[.d (.sl xs), .dead, .nilsl, .dead, .dead, .dead, .dead, .dead], hp⟩) (v := .d (.sl xs)) rfl d1 (s' := ⟨[.d (.sl xs), .dead, .nilsl, .d (.sl xs), .dead, .dead, .dead, .dead], hp⟩) (by rw [d1]; rfl)).wp ?_)
              intro gB wB aB hIB hcB hdB
              have hAB := hcA.trans hcB
              have hdAB := hdB.trans hdA
              obtain ⟨ad2, cap2, hva, _⟩ := (x_toD hIB (x := .tmp 3) (y := .t 3) rfl (d := .sl xs) rfl).sl_inv
              have hv2 := x_toD hIB (x := .tmp 3) (y := .t 3) rfl (d := .sl xs) rfl
              rw [hva] at hv2
              have hq : ∀ y, (eqGuard .eql t' (.tmp 3) y (.slice ad2 xs.length cap2) (.slice none 0 0)).run P wB = .ok () wB := fun y => by unfold eqGuard; rfl
              have hex : (execOp aB.eval o2).run P wB = .ok (.value (.bool ad2.isNone)) wB := by
                have e4 : aB.eval (.const (.slice none 0 0)) = .slice none 0 0 := rfl
                unfold execOp
                simp only [p2, hva, e4, Sem.run_bind, hq, Result.andThen_ok, Sem.run_pure, Lib.run_eql_slice_nil wB _ _ _ _ _ _ _ hun2]
              refine .inl ((OpRes.value (l := .ret 0) hIB hex (v := .d (.bool ad2.isNone)) (s' := ⟨[.d (.sl xs), .dead, .nilsl, .d (.sl xs), .d (.bool ad2.isNone), .dead, .dead, .dead], hp⟩) (by rw [d2]; rfl) rfl (by simp only [RepF]; exact .bool _)).wp ?_)
              intro gC wC aC hIC hcC hdC
              have hAC := hAB.trans hcC
              have hdAC := hdC.trans hdAB
              have hcv : aC.eval (.tmp 4) = .bool ad2.isNone := by
                have := (x_toD hIC (x := .tmp 4) (y := .t 4) rfl (d := .bool ad2.isNone) rfl)
                exact this.bool_inv
              cases ad2 with
              | none =>
                obtain rfl := nil_of hv2
                refine wp_cond_true hcv (code_sound cf0_sound (pf := fun _ => false) cf0_nice 0 c2 (clC e) k2 (s' := ⟨[.dead, .dead, .own e [], .dead, .dead, .dead, .dead, .dead], hp⟩) (ex := .ret) rfl hIC ?_)
                intro g' w' a' hI' hc' hd'
                obtain ⟨u, g1, r1, r2, r3, r4⟩ := results_ok hI' hres (by simp) (v := .own e []) rfl
                refine ⟨hd'.trans hdAC, u, r1, { g1 with nb := g1.nb + 1 }, ?_, u, rfl, ?_, ?_⟩
                · refine ((hAC.trans hc').trans r2).trans ⟨rfl, rfl, rfl, Nat.le_refl _, fun _ _ _ h k => ⟨h, k⟩, fun _ _ _ h _ => ⟨h, rfl, rfl⟩, fun _ _ h => ⟨h, rfl⟩, Nat.le_succ _, fun _ _ => rfl⟩
                · have r5 : RepF P g1 w' (.ret 0) (.own e []) u := r3
                  simp only [RepF] at r5
                  obtain ⟨us, q1, _⟩ := r5
                  have hnb : g1.nb = hp.length := r4.nb
                  show RepF P _ w' (.ret 0) (.rowh hp.length 0 0) u
                  simp only [RepF]
                  rcases q1.2 with ⟨hv, _⟩ | ⟨b, cap, cur, hv, _, _, hle, _⟩
                  · exact ⟨by rw [hnb]; exact Nat.lt_succ_self _, none, 0, hv, Nat.le_refl _, fun hf => absurd rfl hf⟩
                  · exact ⟨by rw [hnb]; exact Nat.lt_succ_self _, _, cap, hv, hle, fun hf => absurd rfl hf⟩
                · exact r4.push (g' := { g1 with nb := g1.nb + 1 }) (en := rowEnt []) (M := fun _ => False) ⟨rfl, rfl, rfl, Nat.le_refl _, fun _ _ _ h k => ⟨h, k⟩, fun _ _ _ h _ => ⟨h, rfl, rfl⟩, fun _ _ h => ⟨h, rfl⟩, Nat.le_succ _, fun _ _ => rfl⟩ (fun _ => ⟨fun hf => hf, fun _ hf => hf⟩) rfl trivial (rowEnt_bn [])
              | some ad3 =>
                refine wp_cond_false hcv (wp_skip ?_)
                refine code_sound cf0_sound (pf := fun _ => false) cf0_nice 0 c3 (clE e sz bytes) k3 (s' := ⟨[.dead, .dead, .rowh hp.length 0 xs.length, .dead, .dead, .dead, .dead, .dead], hp ++ [rowEnt xs]⟩) (ex := .ret) ?_ hIC ?_
                · have ha : ∀ s : St, s.tm.getD 5 .dead = .own e [] → s.tm.getD 6 .dead = .d (.sl xs) → aprOp s e sz bytes (.t 5) (.t 6) = some (.rowh s.hp.length 0 xs.length, ⟨s.tm.set 5 .dead, s.hp ++ [rowEnt xs]⟩) := by
                    intro s h1 h2
                    simp only [aprOp, St.x, h1, h2, PV.toD, if_true, hr]
                  unfold clE
                  simp only [Option.isNone_some]
                  rw [show evCode cf0 0 (.seq (.reg [⟨some 5, none, .bsl e sz []⟩, ⟨some 6, none, .mv false (.t 0)⟩, ⟨some 7, none, .apr e sz bytes (.t 5) (.t 6)⟩, ⟨some 2, none, .mv false (.t 7)⟩] [] false) (.ret [.kill, .kill, .keep])) ⟨[.d (.sl xs), .dead, .nilsl, .d (.sl xs), .d (.bool false), .dead, .dead, .dead], hp⟩ =
                    (match ((match (aprOp ⟨[.d (.sl xs), .dead, .nilsl, .d (.sl xs), .d (.bool false), .own e [], .d (.sl xs), .dead], hp⟩ e sz bytes (.t 5) (.t 6)).bind fun (v, s) => okPut s (some 7) v with
                      | some (.ok s') => evOps cf0 [⟨some 2, none, .mv false (.t 7)⟩] s'
                      | x => x).bind (drawEnd false)).map (regEnd ⟨[.d (.sl xs), .dead, .nilsl, .d (.sl xs), .d (.bool false), .dead, .dead, .dead], hp⟩ []) with
                    | some (.norm, s') => evCode cf0 0 (.ret [.kill, .kill, .keep]) s'
                    | r => r) from rfl]
                  rw [ha _ rfl rfl]
                  rfl
                intro g' w' a' hI' hc' hd'
                obtain ⟨u, g1, r1, r2, r3, r4⟩ := results_ok hI' hres (by simp) (v := .rowh hp.length 0 xs.length) rfl
                exact ⟨hd'.trans hdAC, u, r1, g1, (hAC.trans hc').trans r2, u, rfl, r3, r4⟩
            · simp at hun
          · simp at m2
        · simp at m1
      · simp at k1
    · simp at hbody
  · simp at hk

theorem cloneM_mk {f t e sz bytes : Nat} (hk : cloneMk P f t e sz bytes = true) : MkSound P f (cloneM sz bytes) where
  ent := by
    unfold cloneMk at hk
    unfold entered
    split at hk
    · rename_i fn hf
      rw [hf]
      simp only [Bool.and_eq_true, beq_iff_eq] at hk ⊢
      obtain ⟨⟨⟨⟨hnt, h2⟩, hres⟩, hun⟩, hbody⟩ := hk
      split at hbody
      · rename_i c0 i1 ops c2 c3 hc
        exact ⟨by rw [hc]; rfl, h2⟩
      · simp at hbody
    · simp at hk
  calls := by
    intro args ys hv hpl g w vals l hp ha hH
    unfold cloneM at hv
    split at hv
    · rename_i xs
      split at hv
      · rename_i hr
        simp only [Option.some.injEq] at hv
        subst hv
        match vals, ha with
        | [u], ha =>
          simp only [RepFs, RepF, and_true] at ha
          exact cloneM_run hk hr ha hH
      · simp at hv
    · simp at hv
end
end Go.Pe

namespace Go.Pe
section
variable {P : Program} {g : G} {w : World} {a : Act} {s s' : St}

def IdxEnt (P : Program) (k : Nat) : Prop :=
  ∃ fn, P.funcs[k]? = some fn ∧ (fn.name == "runtime.NumGoroutine") = false ∧ fn.body.isNone = true ∧ Extern.findNext fn = none ∧ Extern.find fn = some Extern.BytealgIndexByte.indexByte

def idxA : RCode := .reg [⟨some 4, none, .mv false (.c (.d (.int .i64 0)))⟩] [] false

def idxOps (k : Nat) : List Oper → Bool
  | [o1, o2, o3, o4] => o1.dst == some 5 && o2.dst == some 6 && o3.dst == some 7 && o4.dst == some 4 && o1.guard.isNone && o2.guard.isNone && o3.guard.isNone && o4.guard.isNone &&
      (match o1.op with | .move (.tmp 0) => true | _ => false) && (match o2.op with | .move (.tmp 1) => true | _ => false) &&
      (match o3.op with | .call ⟨.value (.func k'), ⟨[.tmp 5, .tmp 6]⟩, _⟩ => k' == k | _ => false) && (match o4.op with | .assign (.tmp 7) => true | _ => false)
  | _ => false

def idxOk (P : Program) (f k : Nat) : Bool :=
  match P.funcs[f]? with
  | some fn => fn.ntmps == 8 && (fn.name != "runtime.NumGoroutine") && resOk P fn.results.toList [.t 4] &&
    (match fn.body with
    | some (.seq c0 (.seq (.region _ ops false) .ret)) => codeOk P (fun _ => false) c0 idxA && idxOps k ops.toList
    | _ => false)
  | none => false

def idxP : List PV → Option PV
  | [.d (.str s), .d (.int .u8 c)] => some (.d (.int .i64 (Lib.indexByte s.data.toList c.toNat.toUInt8)))
  | _ => none

theorem idx_run {f k : Nat} (hX : IdxEnt P k) (hk : idxOk P f k = true) {s : ByteArray} {c : Int} {g : G} {w : World} :
    Calls P f #[.string s, .int .u8 c] w fun en w' => ∃ u g', en = .returned u ∧ Chg (fun _ => False) g w g' w' ∧ g'.nb = g.nb ∧ RepR P g' w' (.d (.int .i64 (Lib.indexByte s.data.toList c.toNat.toUInt8))) u := by
  obtain ⟨fx, x1, x2, x3, x4, x5⟩ := hX
  unfold idxOk at hk
  split at hk
  · rename_i fn hf
    simp only [Bool.and_eq_true, beq_iff_eq] at hk
    obtain ⟨⟨⟨hnt, _⟩, hres⟩, hbody⟩ := hk
    split at hbody
    · rename_i c0 i1 ops hc
      simp only [Bool.and_eq_true] at hbody
      obtain ⟨k0, k1⟩ := hbody
      unfold idxOps at k1
      split at k1
      · rename_i o1 o2 o3 o4 hops
        simp only [Bool.and_eq_true, beq_iff_eq, Option.isNone_iff_eq_none] at k1
        obtain ⟨⟨⟨⟨⟨⟨⟨⟨⟨⟨⟨d1, d2⟩, d3⟩, d4⟩, g1⟩, g2⟩, g3⟩, g4⟩, m1⟩, m2⟩, m3⟩, m4⟩ := k1
        split at m1
        · rename_i p1
          split at m2
          · rename_i p2
            split at m3
            · rename_i k' ts p3
              simp only [beq_iff_eq] at m3
              subst m3
              split at m4
              · rename_i p4
                refine calls_of_wp hf hc ?_
                rw [hnt]
                have hargs : RepFs P g.bare w (.ret 0) [.d (.str s), .d (.int .u8 c)] [.string s, .int .u8 c] :=
                  RepFs.bare (l := .ret 0) rfl rfl (by simp only [RepFs, RepF, and_true]; exact ⟨.str _, .int _ _⟩)
                have hI := Inv.enter (P := P) (w := w) (g := g.bare) (hp := []) (l := .ret 0) (args := [.d (.str s), .d (.int .u8 c)]) rfl hargs ⟨rfl, by simp, fun _ _ h => by simp at h⟩ 8
                refine wp_seq (code_sound cf0_sound (pf := fun _ => false) cf0_nice 0 c0 idxA k0 (s' := ⟨[.d (.str s), .d (.int .u8 c), .dead, .dead, .d (.int .i64 0), .dead, .dead, .dead], []⟩) (ex := .norm) rfl hI ?_)
                intro gA wA aA hIA hcA hdA
                refine wp_seq (wp_region ?_)
                have hoa : ops = #[o1, o2, o3, o4] := by apply Array.toList_inj.1; rw [hops]
                subst hoa
                have hrg : List.range (#[o1, o2, o3, o4] : Array Oper).size = [0, 1, 2, 3] := rfl
                rw [hrg]
                simp only [wpOps]
                have w1 : ∀ y, Region.wanted o1 y = true := fun y => by simp [Region.wanted, g1]
                have w2 : ∀ y, Region.wanted o2 y = true := fun y => by simp [Region.wanted, g2]
                have w3 : ∀ y, Region.wanted o3 y = true := fun y => by simp [Region.wanted, g3]
                have w4 : ∀ y, Region.wanted o4 y = true := fun y => by simp [Region.wanted, g4]
                have e1 : (#[o1, o2, o3, o4] : Array Oper)[0]? = some o1 := rfl
                have e2 : (#[o1, o2, o3, o4] : Array Oper)[1]? = some o2 := rfl
                have e3 : (#[o1, o2, o3, o4] : Array Oper)[2]? = some o3 := rfl
                have e4 : (#[o1, o2, o3, o4] : Array Oper)[3]? = some o4 := rfl
                simp only [e1, e2, e3, e4, w1, w2, w3, w4, if_true]
                refine .inl ((op_mv (m := false) (x' := .t 0) hIA (.inl p1) rfl (s1 := ⟨[.d (.str s), .d (.int .u8 c), .dead, .dead, .d (.int .i64 0), .dead, .dead, .dead], []⟩) (v := .d (.str s)) rfl d1 (s' := ⟨[.d (.str s), .d (.int .u8 c), .dead, .dead, .d (.int .i64 0), .d (.str s), .dead, .dead], []⟩) (by rw [d1]; rfl)).wp ?_)
                intro gB wB aB hIB hcB hdB
                have hAB := hcA.trans hcB
                have hdAB := hdB.trans hdA
                refine .inl ((op_mv (m := false) (x' := .t 1) hIB (.inl p2) rfl (s1 := ⟨[.d (.str s), .d (.int .u8 c), .dead, .dead, .d (.int .i64 0), .d (.str s), .dead, .dead], []⟩) (v := .d (.int .u8 c)) rfl d2 (s' := ⟨[.d (.str s), .d (.int .u8 c), .dead, .dead, .d (.int .i64 0), .d (.str s), .d (.int .u8 c), .dead], []⟩) (by rw [d2]; rfl)).wp ?_)
                intro gC wC aC hIC hcC hdC
                have hAC := hAB.trans hcC
                have hdAC := hdC.trans hdAB
                have v5 := (x_toD hIC (x := .tmp 5) (y := .t 5) rfl (d := .str s) rfl).str_inv
                have v6 := (x_toD hIC (x := .tmp 6) (y := .t 6) rfl (d := .int .u8 c) rfl).int_inv
                have hex : (execOp aC.eval o3).run P wC = .ok (.value (.int .i64 (Lib.indexByte s.data.toList c.toNat.toUInt8))) wC := by
                  have ef : aC.eval (.func k') = .func (.func k') #[] #[] := rfl
                  unfold execOp
                  simp only [p3, resolve, ef, Deferred.ofValue, Sem.run_bind, Sem.run_pure, Result.andThen_ok, invoke, run_callFunc_extern x1 x2 x3 x4 x5]
                  have ea : (#[Operand.tmp 5, Operand.tmp 6].map aC.eval ++ #[] : Array Value) = #[.string s, .int .u8 c] := by
                    simp [v5, v6]
                  first
                  | (rw [ea, Lib.run_indexByteString]; rfl)
                  | (simp [v5, v6, Lib.run_indexByteString])
                refine .inl ((OpRes.value (l := .ret 0) hIC hex (v := .d (.int .i64 (Lib.indexByte s.data.toList c.toNat.toUInt8))) (s' := ⟨[.d (.str s), .d (.int .u8 c), .dead, .dead, .d (.int .i64 0), .d (.str s), .d (.int .u8 c), .d (.int .i64 (Lib.indexByte s.data.toList c.toNat.toUInt8))], []⟩) (by rw [d3]; rfl) rfl (by simp only [RepF]; exact .int _ _)).wp ?_)
                intro gD wD aD hID hcD hdD
                have hAD := hAC.trans hcD
                have hdAD := hdD.trans hdAC
                refine .inl ((op_mv (m := false) (x' := .t 7) hID (.inr p4) rfl (s1 := ⟨[.d (.str s), .d (.int .u8 c), .dead, .dead, .d (.int .i64 0), .d (.str s), .d (.int .u8 c), .d (.int .i64 (Lib.indexByte s.data.toList c.toNat.toUInt8))], []⟩) (v := .d (.int .i64 (Lib.indexByte s.data.toList c.toNat.toUInt8))) rfl d4 (s' := ⟨[.d (.str s), .d (.int .u8 c), .dead, .dead, .d (.int .i64 (Lib.indexByte s.data.toList c.toNat.toUInt8)), .d (.str s), .d (.int .u8 c), .d (.int .i64 (Lib.indexByte s.data.toList c.toNat.toUInt8))], []⟩) (by rw [d4]; rfl)).wp ?_)
                intro gE wE aE hIE hcE hdE
                have hAE := hAD.trans hcE
                have hdAE := hdE.trans hdAD
                refine wp_ret ?_
                obtain ⟨u, gF, r1, r2, r3, r4⟩ := results_ok hIE hres (by simp) (v := .d (.int .i64 (Lib.indexByte s.data.toList c.toNat.toUInt8))) rfl
                exact ⟨hdAE, u, r1, u, gF.dress g, rfl, (hAE.trans r2).dress, rfl, RepR.dress (g := g) rfl r3⟩
              · simp at m4
            · simp at m3
          · simp at m2
        · simp at m1
      · simp at k1
    · simp at hbody
  · simp at hk

theorem idx_prim {f k : Nat} (hX : IdxEnt P k) (hk : idxOk P f k = true) : PrimSound P f idxP where
  ent := by
    unfold idxOk at hk
    unfold entered
    split at hk
    · rename_i fn hf
      rw [hf]
      simp only [Bool.and_eq_true, beq_iff_eq] at hk ⊢
      obtain ⟨⟨⟨hnt, h2⟩, hres⟩, hbody⟩ := hk
      split at hbody
      · rename_i c0 i1 ops hc
        exact ⟨by rw [hc]; rfl, h2⟩
      · simp at hbody
    · simp at hk
  calls := by
    intro args v hv hfl hpl g w vals l ha
    unfold idxP at hv
    split at hv
    · rename_i s c
      simp only [Option.some.injEq] at hv
      subst hv
      match vals, ha with
      | [u1, u2], ha =>
        simp only [RepFs, RepF, and_true] at ha
        obtain ⟨h1, h2⟩ := ha
        have e1 := h1.str_inv
        have e2 := h2.int_inv
        subst e1; subst e2
        exact idx_run hX hk
    · simp at hv
end
end Go.Pe

namespace Go.Pe
inductive Xp where
  | mk (op : Int) (text : ByteArray) (pos kind coef scale : Int) (names : List ByteArray) (subs : List Xp)

mutual
def Xp.enc : Xp → D
  | .mk o t p k c s ns xs => .agg [iv o, .str t, iv p, iv k, iv c, iv s, .sl (ns.map .str), .sl (Xp.encs xs)]
def Xp.encs : List Xp → List D
  | [] => []
  | v :: r => v.enc :: Xp.encs r
end
theorem xencs_eq : ∀ (xs : List Xp), Xp.encs xs = xs.map Xp.enc
  | [] => rfl
  | v :: xs => by simp [Xp.encs, xencs_eq xs]
theorem xencs_get (xs : List Xp) (i : Nat) : (Xp.encs xs)[i]? = xs[i]?.map Xp.enc := by rw [xencs_eq, List.getElem?_map]
theorem xencs_len (xs : List Xp) : (Xp.encs xs).length = xs.length := by rw [xencs_eq, List.length_map]
theorem xencs_app (xs ys : List Xp) : Xp.encs (xs ++ ys) = Xp.encs xs ++ Xp.encs ys := by simp [xencs_eq]
theorem xenc_w (v : Xp) : v.enc.width = 8 := by cases v; rfl
theorem xenc_a (v : Xp) : v.enc.isAgg = true := by cases v; rfl
theorem xenc_as (v : Xp) : ∃ (o : Int) (t : ByteArray) (p k c s : Int) (ns : List ByteArray) (xs : List Xp), v.enc = .agg [iv o, .str t, iv p, iv k, iv c, iv s, .sl (ns.map .str), .sl (Xp.encs xs)] := by
  cases v; exact ⟨_, _, _, _, _, _, _, _, rfl⟩

mutual
def Xp.ok : Xp → Prop
  | .mk o t p k c s ns xs => i64 o ∧ t.size ≤ maxLen ∧ i64 p ∧ i64 k ∧ i64 c ∧ i64 s ∧ ns.length ≤ maxLen ∧ (∀ x ∈ ns, x.size ≤ maxLen) ∧ xs.length ≤ maxLen ∧ Xp.oks xs
def Xp.oks : List Xp → Prop
  | [] => True
  | v :: r => v.ok ∧ Xp.oks r
end
theorem xoks_iff : ∀ {xs : List Xp}, Xp.oks xs ↔ ∀ v ∈ xs, v.ok
  | [] => by simp [Xp.oks]
  | x :: xs => by simp [Xp.oks, xoks_iff (xs := xs)]
theorem xoks_mem {xs : List Xp} {v : Xp} (h : Xp.oks xs) (hv : v ∈ xs) : v.ok := xoks_iff.1 h v hv

mutual
def Xp.pre : Xp → List Xp
  | .mk o t p k c s ns xs => .mk o t p k c s ns xs :: Xp.pres xs
def Xp.pres : List Xp → List Xp
  | [] => []
  | x :: r => x.pre ++ Xp.pres r
end
theorem pres_app (a b : List Xp) : Xp.pres (a ++ b) = Xp.pres a ++ Xp.pres b := by
  induction a with
  | nil => rfl
  | cons x a ih => simp [Xp.pres, ih, List.append_assoc]
def Xp.subs : Xp → List Xp
  | .mk _ _ _ _ _ _ _ xs => xs
theorem pre_eq (e : Xp) : e.pre = e :: Xp.pres e.subs := by cases e; rfl
theorem pre_pos (e : Xp) : 0 < e.pre.length := by rw [pre_eq]; simp
mutual
theorem pre_ok : ∀ (e : Xp), e.ok → ∀ x ∈ e.pre, x.ok
  | .mk o t p k c s ns xs, h, x, hx => by
    simp only [Xp.pre, List.mem_cons] at hx
    rcases hx with rfl | hx
    · exact h
    · simp only [Xp.ok] at h
      exact pres_ok xs h.2.2.2.2.2.2.2.2.2 x hx
theorem pres_ok : ∀ (xs : List Xp), Xp.oks xs → ∀ x ∈ Xp.pres xs, x.ok
  | [], h, x, hx => by simp [Xp.pres] at hx
  | e :: xs, h, x, hx => by
    simp only [Xp.pres, List.mem_append] at hx
    rcases hx with hx | hx
    · exact pre_ok e h.1 x hx
    · exact pres_ok xs h.2 x hx
end

section
variable {H : Type} {P : Program}
structure XpT (P : Program) (tV : TypeId) : Prop where
  is : ∃ (fV fN : Array Field) (tO tX tP tK tN tT tU tC tE tEs : TypeId), P.underlying tV = some (.struct fV) ∧ fV.toList.map (·.type) = [tO, tX, tP, tK, tN, tT, tU] ∧
    P.underlying tO = some (.int .i64) ∧ P.underlying tX = some .string ∧ P.underlying tP = some (.int .i64) ∧ P.underlying tK = some (.int .i64) ∧
    P.underlying tN = some (.struct fN) ∧ fN.toList.map (·.type) = [tC, tE] ∧ P.underlying tC = some (.int .i64) ∧ P.underlying tE = some (.int .i64) ∧
    P.underlying tT = some (.slice tEs) ∧ P.underlying tEs = some .string ∧ P.underlying tU = some (.slice tV)

theorem lift_xp {tV : TypeId} (hT : XpT P tV) : ∀ (n : Nat) (d : DataW H) (xs : List D), SizeOf.sizeOf xs ≤ n → Lift P tV d xs → ∃ v : Xp, v.ok ∧ D.agg xs = v.enc
  | 0, d, xs, hn, h => by cases xs <;> simp at hn
  | n + 1, d, xs, hn, h => by
    obtain ⟨fV, fN, tO, tX, tP, tK, tN, tT, tU, tC, tE, tEs, e1, e2, u1, u2, u3, u4, u5, u6, u7, u8, u9, u10, u11⟩ := hT.is
    have hagg : aggT P tV = true := by simp [aggT, e1]
    obtain ⟨ds, l0⟩ := lift_st e1 h
    rw [e2] at l0
    obtain ⟨_, _, a1, b1, rfl, m1, l1⟩ := lifts_cons l0
    obtain ⟨_, _, a2, b2, rfl, m2, l2⟩ := lifts_cons l1
    obtain ⟨_, _, a3, b3, rfl, m3, l3⟩ := lifts_cons l2
    obtain ⟨_, _, a4, b4, rfl, m4, l4⟩ := lifts_cons l3
    obtain ⟨_, _, a5, b5, rfl, m5, l5⟩ := lifts_cons l4
    obtain ⟨_, _, a6, b6, rfl, m6, l6⟩ := lifts_cons l5
    obtain ⟨_, _, a7, b7, rfl, m7, l7⟩ := lifts_cons l6
    obtain rfl := lifts_nil l7
    obtain ⟨o, rfl, k1⟩ := lift_int u1 m1
    obtain ⟨t, rfl, k2⟩ := lift_str u2 m2
    obtain ⟨p, rfl, k3⟩ := lift_int u3 m3
    obtain ⟨k, rfl, k4⟩ := lift_int u4 m4
    obtain ⟨_, q0⟩ := lift_st u5 m5
    rw [u6] at q0
    obtain ⟨_, _, c1, c2, rfl, n1, q1⟩ := lifts_cons q0
    obtain ⟨_, _, c3, c4, rfl, n2, q2⟩ := lifts_cons q1
    obtain rfl := lifts_nil q2
    obtain ⟨c, rfl, k5⟩ := lift_int u7 n1
    obtain ⟨s, rfl, k6⟩ := lift_int u8 n2
    obtain ⟨ns, rfl, k7, k8⟩ := lift_strs u9 u10 m6
    obtain ⟨ys, rfl, k9, k10⟩ := lift_sl u11 m7
    have key : ∀ zs : List D, (∀ y ∈ zs, y ∈ ys) → ∃ vs : List Xp, Xp.oks vs ∧ zs = Xp.encs vs := by
      intro zs
      induction zs with
      | nil => exact fun _ => ⟨[], trivial, rfl⟩
      | cons y zs ih =>
        intro hz
        obtain ⟨vs, v1, v2⟩ := ih fun y hy => hz y (by simp [hy])
        obtain ⟨g1, d', g2⟩ := k10 y (hz y (by simp))
        have g3 := agg_cells (y := y) (by rw [g1, hagg])
        have hsz : SizeOf.sizeOf y.cells ≤ n := by
          have s1 : SizeOf.sizeOf y < SizeOf.sizeOf ys := List.sizeOf_lt_of_mem (hz y (by simp))
          rw [g3] at s1
          simp at hn s1
          omega
        obtain ⟨v, w1, w2⟩ := lift_xp hT n d' y.cells hsz g2
        exact ⟨v :: vs, ⟨w1, v1⟩, by rw [Xp.encs, ← w2, ← g3, ← v2]⟩
    obtain ⟨vs, v1, v2⟩ := key ys (fun _ h => h)
    subst v2
    refine ⟨.mk o t p k c s ns vs, ?_, by simp [Xp.enc]⟩
    simp only [Xp.ok]
    exact ⟨k1, k2, k3, k4, k5, k6, k7, k8, by rw [xencs_len] at k9; exact k9, v1⟩

theorem lift_xp' {tV : TypeId} (hT : XpT P tV) {d : DataW H} {x : D} (h : Lift P tV d x.cells) (ha : x.isAgg = aggT P tV) : ∃ v : Xp, v.ok ∧ x = v.enc := by
  obtain ⟨fV, _, _, _, _, _, _, _, _, _, _, _, e1, _⟩ := hT.is
  have hagg : aggT P tV = true := by simp [aggT, e1]
  obtain ⟨v, h1, h2⟩ := lift_xp hT _ d x.cells (Nat.le_refl _) h
  exact ⟨v, h1, by rw [← h2]; exact agg_cells (by rw [ha, hagg])⟩
theorem lift_i {t : TypeId} (ht : P.underlying t = some (.int .i64)) {d : DataW H} {x : D} (h : Lift P t d x.cells) (ha : x.isAgg = aggT P t) : ∃ n, i64 n ∧ x = iv n := by
  obtain ⟨n, h1, h2⟩ := lift_int ht h
  exact ⟨n, h2, cell_cells (by rw [ha]; simp [aggT, ht]) h1⟩
end
end Go.Pe

namespace Go.Pe

structure AggRow (sz : Nat) (ys : List D) : Prop where
  agg : ∀ y ∈ ys, y.isAgg = true
  wid : ∀ y ∈ ys, y.width = sz
  one : ∀ y ∈ ys, ∀ c ∈ y.cells, c.isAgg = false

theorem AggRow.tail {sz : Nat} {y : D} {ys : List D} (h : AggRow sz (y :: ys)) : AggRow sz ys := ⟨fun z hz => h.agg z (by simp [hz]), fun z hz => h.wid z (by simp [hz]), fun z hz => h.one z (by simp [hz])⟩

theorem flatD_cons (y : D) (ys : List D) : flatD (y :: ys) = y.cells.map PV.d ++ flatD ys := by simp [flatD]

theorem flatD_drop {sz : Nat} : ∀ {ys : List D}, (∀ y ∈ ys, y.width = sz) → ∀ i, (flatD ys).drop (i * sz) = flatD (ys.drop i)
  | ys, _, 0 => by simp
  | [], _, i + 1 => by simp [flatD]
  | y :: ys, hw, i + 1 => by
    have hy : (y.cells.map PV.d).length = sz := by rw [List.length_map]; exact hw y (by simp)
    rw [flatD_cons, Nat.succ_mul, Nat.add_comm, ← List.drop_drop, ← hy, List.drop_left, hy, flatD_drop (fun z hz => hw z (by simp [hz]))]
    rfl

theorem optAll_d : ∀ (l : List D), optAll ((l.map PV.d).map PV.toD) = some l
  | [] => rfl
  | x :: l => by
    simp only [List.map_cons, PV.toD, optAll, optAll_d l, Option.map_some]

theorem cellsAgg_row {sz : Nat} {ys : List D} (h : AggRow sz ys) {i : Nat} (hi : i < ys.length) : cellsAgg (flatD ys) (i * sz) sz = some (.d ys[i]) := by
  have hl := flatD_len h.wid
  have hle : i * sz + sz ≤ (flatD ys).length := by
    rw [hl]
    have : (i + 1) * sz ≤ ys.length * sz := Nat.mul_le_mul_right _ hi
    rw [Nat.succ_mul] at this
    exact this
  have hd := flatD_drop h.wid i
  rw [List.drop_eq_getElem_cons hi, flatD_cons] at hd
  have hy : (ys[i].cells.map PV.d).length = sz := by rw [List.length_map]; exact h.wid _ (List.getElem_mem hi)
  unfold cellsAgg
  rw [if_pos hle, hd, ← hy, List.take_left, optAll_d]
  simp only [Option.map_some, Option.some.injEq, PV.d.injEq]
  have ha := h.agg _ (List.getElem_mem hi)
  generalize ys[i] = y at *
  cases y <;> simp [D.isAgg] at ha
  rfl

theorem setCells_d : ∀ (l : List D) (cs : List PV) (off : Nat), off + l.length ≤ cs.length → setCells cs off l = cs.take off ++ l.map PV.d ++ cs.drop (off + l.length)
  | [], cs, off, h => by simp [setCells]
  | d :: l, cs, off, h => by
    simp only [List.length_cons] at h
    rw [setCells, setCells_d l _ (off + 1) (by simp; omega)]
    have h1 : (cs.set off (.d d)).take (off + 1) = cs.take off ++ [.d d] := by
      rw [List.take_add_one, List.take_set_of_le (Nat.le_refl _), List.getElem?_set_self (by omega)]
      rfl
    have h2 : (cs.set off (.d d)).drop (off + 1 + l.length) = cs.drop (off + (d :: l).length) := by
      rw [List.drop_set_of_lt (by omega)]
      congr 1
      simp; omega
    rw [h1, h2]
    simp

theorem storeIn_row {sz : Nat} {ys : List D} (h : AggRow sz ys) {i : Nat} (hi : i < ys.length) {y : D} (ha : y.isAgg = true) (hw : y.width = sz) : storeIn (some sz) (flatD ys) (i * sz) (.d y) = some (flatD (ys.set i y)) := by
  have hl := flatD_len h.wid
  have hle : i * sz + sz ≤ (flatD ys).length := by
    rw [hl]
    have : (i + 1) * sz ≤ ys.length * sz := Nat.mul_le_mul_right _ hi
    rw [Nat.succ_mul] at this
    exact this
  cases y with
  | agg ds =>
    have hds : ds.length = sz := hw
    have e1 : (ds.length = sz && i * sz + sz ≤ (flatD ys).length : Bool) = true := by simp [hds, hle]
    simp only [storeIn]
    rw [if_pos e1, setCells_d _ _ _ (by rw [hds]; exact hle)]
    congr 1
    have ht : (flatD ys).take (i * sz) = flatD (ys.take i) := by
      have e := flatD_drop h.wid i
      have e2 : flatD ys = flatD (ys.take i) ++ flatD (ys.drop i) := by
        unfold flatD
        rw [← List.map_append, ← List.flatMap_append, List.take_append_drop]
      have hlen : (flatD (ys.take i)).length = i * sz := by
        rw [flatD_len (fun z hz => h.wid z (List.mem_of_mem_take hz)), List.length_take, Nat.min_eq_left (Nat.le_of_lt hi)]
      rw [e2, ← hlen, List.take_left]
    have hd : (flatD ys).drop (i * sz + ds.length) = flatD (ys.drop (i + 1)) := by
      rw [hds, ← Nat.succ_mul]
      exact flatD_drop h.wid (i + 1)
    rw [ht, hd]
    have e3 : ys.set i (.agg ds) = ys.take i ++ .agg ds :: ys.drop (i + 1) := by
      rw [List.set_eq_take_append_cons_drop, if_pos hi]
    rw [e3]
    simp [flatD]
    rfl
  | _ => simp [D.isAgg] at ha

theorem AggRow.set {sz : Nat} {ys : List D} (h : AggRow sz ys) {i : Nat} {y : D} (ha : y.isAgg = true) (hw : y.width = sz) (ho : ∀ c ∈ y.cells, c.isAgg = false) : AggRow sz (ys.set i y) := by
  have key : ∀ z ∈ ys.set i y, z ∈ ys ∨ z = y := fun z hz => List.mem_or_eq_of_mem_set hz
  exact ⟨fun z hz => (key z hz).elim (h.agg z) (fun e => e ▸ ha), fun z hz => (key z hz).elim (h.wid z) (fun e => e ▸ hw), fun z hz => (key z hz).elim (h.one z) (fun e => e ▸ ho)⟩

theorem chunkD_flat {sz : Nat} : ∀ {ys : List D}, AggRow sz ys → chunkD sz ys.length (ys.flatMap D.cells) = ys
  | [], _ => rfl
  | y :: ys, h => by
    have hy : y.cells.length = sz := h.wid y (by simp)
    have ha := h.agg y (by simp)
    simp only [List.length_cons, chunkD, List.flatMap_cons]
    rw [← hy, List.take_left, List.drop_left, hy, chunkD_flat h.tail]
    cases y <;> simp [D.isAgg] at ha
    rfl

theorem frz_row {s : St} {sz id : Nat} {x : X} {ys : List D} (h : AggRow sz ys) (hx : s.x x = .rowh id 0 ys.length) (hid : s.hp[id]? = some (rowEnt ys)) : frzOp s sz true x = some (.d (.sl ys), { s with hp := s.hp.set id .gone }) := by
  unfold frzOp
  rw [hx]
  simp only
  by_cases h0 : ys = []
  · subst h0
    have : s.hp.set id .gone = s.hp := by
      obtain ⟨hlt, e⟩ := List.getElem?_eq_some_iff.1 hid
      have e' : s.hp[id] = .gone := e
      rw [← e']; exact List.set_getElem_self hlt
    rw [this]
    rfl
  · have hne : ¬ ys.length = 0 := fun e => h0 (List.eq_nil_of_length_eq_zero e)
    have e1 : rowEnt ys = .box (flatD ys) := by unfold rowEnt; cases ys with | nil => exact absurd rfl h0 | cons _ _ => rfl
    rw [if_neg hne, hid, e1]
    simp only [List.drop_zero]
    have hl := flatD_len h.wid
    rw [← hl, List.take_length]
    have e2 : optAll ((flatD ys).map PV.toD) = some (ys.flatMap D.cells) := optAll_d _
    rw [e2]
    simp only
    have e3 : (ys.flatMap D.cells).length = (flatD ys).length := by unfold flatD; simp
    have e4 : (ys.flatMap D.cells).all (fun d => !d.isAgg) = true := by
      simp only [List.all_eq_true, Bool.not_eq_true', List.mem_flatMap]
      rintro d ⟨y, hy, hd⟩
      exact h.one y hy d hd
    simp only [e3, e4, rowsD, if_true, chunkD_flat h, decide_true, Bool.true_or, Bool.and_true]
end Go.Pe

namespace Go.Pe
def arr3 (a b c : Val) : D := .agg (a.enc.cells ++ (b.enc.cells ++ (c.enc.cells ++ [])))

theorem lift_arr {H : Type} {P : Program} {t e : TypeId} {n : Nat} {d : DataW H} {xs : List D} (h : P.underlying t = some (.array n e)) (hl : Lift P t d xs) :
    ∃ ds : List (DataW H), Lifts P ((List.range n).map fun _ => e) ds xs := by
  cases hl with
  | arr n' e' ds cs h1 h2 =>
    rw [h] at h1
    simp only [Option.some.injEq, TypeDesc.array.injEq] at h1
    obtain ⟨rfl, rfl⟩ := h1
    exact ⟨ds, h2⟩
  | _ => simp_all

theorem lift_arr3 {H : Type} {P : Program} {t tV : TypeId} (hT : ValT P tV) (ht : P.underlying t = some (.array 3 tV)) {d : DataW H} {x : D} (h : Lift P t d x.cells) (ha : x.isAgg = aggT P t) : ∃ a b c : Val, (a.ok ∧ b.ok ∧ c.ok) ∧ x = arr3 a b c := by
  obtain ⟨ds, h1⟩ := lift_arr ht h
  have e : ((List.range 3).map fun _ => tV) = [tV, tV, tV] := rfl
  rw [e] at h1
  obtain ⟨_, _, a1, b1, q, m1, l1⟩ := lifts_cons h1
  obtain ⟨_, _, a2, b2, rfl, m2, l2⟩ := lifts_cons l1
  obtain ⟨_, _, a3, b3, rfl, m3, l3⟩ := lifts_cons l2
  obtain rfl := lifts_nil l3
  obtain ⟨a, oa, ea⟩ := lift_val hT _ _ a1 (Nat.le_refl _) m1
  obtain ⟨b, ob, eb⟩ := lift_val hT _ _ a2 (Nat.le_refl _) m2
  obtain ⟨c, oc, ec⟩ := lift_val hT _ _ a3 (Nat.le_refl _) m3
  have hagg : aggT P t = true := by simp [aggT, ht]
  refine ⟨a, b, c, ⟨oa, ob, oc⟩, ?_⟩
  rw [agg_cells (y := x) (by rw [ha, hagg]), q, arr3, ← ea, ← eb, ← ec]
  rfl
end Go.Pe

namespace Go.Pe
section
variable {H : Type} {P : Program}
theorem lift_ss {t e : TypeId} (ht : P.underlying t = some (.slice e)) (he : P.underlying e = some .string) {d : DataW H} {x : D} (h : Lift P t d x.cells) (ha : x.isAgg = aggT P t) :
    ∃ ks : List ByteArray, (ks.length ≤ maxLen ∧ ∀ x ∈ ks, x.size ≤ maxLen) ∧ x = .sl (ks.map .str) := by
  obtain ⟨ks, h1, h2, h3⟩ := lift_strs ht he h
  exact ⟨ks, ⟨h2, h3⟩, cell_cells (by rw [ha]; simp [aggT, ht]) h1⟩
end
end Go.Pe
