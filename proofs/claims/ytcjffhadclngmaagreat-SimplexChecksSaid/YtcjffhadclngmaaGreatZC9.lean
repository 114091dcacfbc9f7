/- Ty BNum BGlob EvTold BExt FName Plain B1 B2 B3 B4 B5 B6 B7 B8 R1 -/
import Derived.Test.YtcjffhadclngmaaGreatZC8
import Derived.Test.YtcjffhadclngmaaGreatChecked
import Derived.IntWalk
namespace Go.Proofs.YtcjffhadclngmaaGreat
theorem mixed:Tryz.prog.follows .mixedOrders=true:=by kernel_rfl
set_option maxRecDepth 100000 in
theorem tys :
  szOf Tryz.prog 1=some 1 ∧
  aggT Tryz.prog 1=some false ∧
  An Tryz.prog 1=some [.prim .nilFunc] ∧
  A5 Tryz.prog 1=false ∧
  szOf Tryz.prog 2=some 1 ∧
  aggT Tryz.prog 2=some false ∧
  An Tryz.prog 2=some [.prim (.int .i64 0)] ∧
  Gf Tryz.prog 2=some .i64 ∧
  A5 Tryz.prog 2=false ∧
  szOf Tryz.prog 3=some 1 ∧
  aggT Tryz.prog 3=some false ∧
  An Tryz.prog 3=some [.prim (.int .i64 0)] ∧
  Gf Tryz.prog 3=some .i64 ∧
  A5 Tryz.prog 3=false ∧
  szOf Tryz.prog 4=some 1 ∧
  aggT Tryz.prog 4=some false ∧
  An Tryz.prog 4=some [.prim (.bool false)] ∧
  A5 Tryz.prog 4=false ∧
  Ys Tryz.prog 4=true ∧
  szOf Tryz.prog 5=some 1 ∧
  aggT Tryz.prog 5=some false ∧
  An Tryz.prog 5=some [.prim (.int .u8 0)] ∧
  Gf Tryz.prog 5=some .u8 ∧
  A5 Tryz.prog 5=false ∧
  szOf Tryz.prog 9=some 1 ∧
  aggT Tryz.prog 9=some false ∧
  An Tryz.prog 9=some [.prim (.string ⟨#[]⟩)] ∧
  A5 Tryz.prog 9=true ∧
  szOf Tryz.prog 12=some 1 ∧
  aggT Tryz.prog 12=some false ∧
  An Tryz.prog 12=some [.prim (.int .u64 0)] ∧
  Gf Tryz.prog 12=some .u64 ∧
  A5 Tryz.prog 12=false ∧
  szOf Tryz.prog 20=some 1 ∧
  aggT Tryz.prog 20=some false ∧
  An Tryz.prog 20=some [.prim .nilIface] ∧
  A5 Tryz.prog 20=false ∧
  szOf Tryz.prog 21=some 1 ∧
  aggT Tryz.prog 21=some false ∧
  An Tryz.prog 21=some [.prim (.int .i32 0)] ∧
  Gf Tryz.prog 21=some .i32 ∧
  A5 Tryz.prog 21=false ∧
  szOf Tryz.prog 22=some 1 ∧
  aggT Tryz.prog 22=some false ∧
  An Tryz.prog 22=some [.frz [] .nilc] ∧
  Bt Tryz.prog 22=some 27 ∧
  apT Tryz.prog 22=some 3 ∧
  A5 Tryz.prog 22=false ∧
  szOf Tryz.prog 23=some 1 ∧
  aggT Tryz.prog 23=some false ∧
  An Tryz.prog 23=some [.frz [] .nilc] ∧
  Bt Tryz.prog 23=some 70 ∧
  apT Tryz.prog 23=some 2 ∧
  A5 Tryz.prog 23=false ∧
  szOf Tryz.prog 24=some 2 ∧
  aggT Tryz.prog 24=some true ∧
  An Tryz.prog 24=some [.frz [] .nilc,.prim (.int .i64 0)] ∧
  A5 Tryz.prog 24=false ∧
  A3 Tryz.prog 24 0=some (0,1,false) ∧
  A3 Tryz.prog 24 1=some (1,1,false) ∧
  fieldsOf Tryz.prog 24=some [(0,1),(1,1)] ∧
  szOf Tryz.prog 25=some 2 ∧
  aggT Tryz.prog 25=some true ∧
  An Tryz.prog 25=some [.frz [] .nilc,.prim (.int .i64 0)] ∧
  A5 Tryz.prog 25=false ∧
  A3 Tryz.prog 25 0=some (0,1,false) ∧
  A3 Tryz.prog 25 1=some (1,1,false) ∧
  fieldsOf Tryz.prog 25=some [(0,1),(1,1)] ∧
  szOf Tryz.prog 26=some 3 ∧
  aggT Tryz.prog 26=some true ∧
  An Tryz.prog 26=some [.frz [] .nilc,.prim (.int .i64 0),.prim (.bool false)] ∧
  A5 Tryz.prog 26=false ∧
  A3 Tryz.prog 26 0=some (0,2,true) ∧
  A3 Tryz.prog 26 1=some (2,1,false) ∧
  fieldsOf Tryz.prog 26=some [(0,2),(2,1)] ∧
  szOf Tryz.prog 27=some 3 ∧
  aggT Tryz.prog 27=some true ∧
  An Tryz.prog 27=some [.frz [] .nilc,.prim (.int .i64 0),.prim (.bool false)] ∧
  A5 Tryz.prog 27=false ∧
  A3 Tryz.prog 27 0=some (0,2,true) ∧
  A3 Tryz.prog 27 1=some (2,1,false) ∧
  fieldsOf Tryz.prog 27=some [(0,2),(2,1)] ∧
  szOf Tryz.prog 28=some 1 ∧
  aggT Tryz.prog 28=some false ∧
  An Tryz.prog 28=some [.prim .nilFunc] ∧
  A5 Tryz.prog 28=false ∧
  szOf Tryz.prog 29=some 1 ∧
  aggT Tryz.prog 29=some false ∧
  An Tryz.prog 29=some [.prim (.int .i64 0)] ∧
  Gf Tryz.prog 29=some .i64 ∧
  A5 Tryz.prog 29=false ∧
  szOf Tryz.prog 30=some 1 ∧
  aggT Tryz.prog 30=some false ∧
  An Tryz.prog 30=some [.prim .nilFunc] ∧
  A5 Tryz.prog 30=false ∧
  szOf Tryz.prog 31=some 1 ∧
  aggT Tryz.prog 31=some false ∧
  An Tryz.prog 31=some [.prim .nilFunc] ∧
  A5 Tryz.prog 31=false ∧
  szOf Tryz.prog 32=some 1 ∧
  aggT Tryz.prog 32=some false ∧
  An Tryz.prog 32=some [.frz [] .nilc] ∧
  Bt Tryz.prog 32=some 9 ∧
  apT Tryz.prog 32=some 1 ∧
  A5 Tryz.prog 32=false ∧
  szOf Tryz.prog 33=some 1 ∧
  aggT Tryz.prog 33=some false ∧
  An Tryz.prog 33=some [.prim .nilFunc] ∧
  A5 Tryz.prog 33=false ∧
  szOf Tryz.prog 34=some 1 ∧
  aggT Tryz.prog 34=some false ∧
  An Tryz.prog 34=some [.prim .nilFunc] ∧
  A5 Tryz.prog 34=false ∧
  szOf Tryz.prog 36=some 1 ∧
  aggT Tryz.prog 36=some false ∧
  An Tryz.prog 36=some [.prim .nilFunc] ∧
  A5 Tryz.prog 36=false ∧
  szOf Tryz.prog 37=some 1 ∧
  aggT Tryz.prog 37=some false ∧
  An Tryz.prog 37=some [.frz [] .nilc] ∧
  Bt Tryz.prog 37=some 3 ∧
  apT Tryz.prog 37=some 1 ∧
  A5 Tryz.prog 37=false ∧
  szOf Tryz.prog 38=some 2 ∧
  aggT Tryz.prog 38=some true ∧
  An Tryz.prog 38=some [.prim (.bool false),.frz [] .nilc] ∧
  A5 Tryz.prog 38=false ∧
  A3 Tryz.prog 38 0=some (0,1,false) ∧
  A3 Tryz.prog 38 1=some (1,1,false) ∧
  fieldsOf Tryz.prog 38=some [(0,1),(1,1)] ∧
  szOf Tryz.prog 39=some 2 ∧
  aggT Tryz.prog 39=some true ∧
  An Tryz.prog 39=some [.prim (.bool false),.frz [] .nilc] ∧
  A5 Tryz.prog 39=false ∧
  A3 Tryz.prog 39 0=some (0,1,false) ∧
  A3 Tryz.prog 39 1=some (1,1,false) ∧
  fieldsOf Tryz.prog 39=some [(0,1),(1,1)] ∧
  szOf Tryz.prog 40=some 4 ∧
  aggT Tryz.prog 40=some true ∧
  An Tryz.prog 40=some [.prim (.bool false),.frz [] .nilc,.prim (.bool false),.frz [] .nilc] ∧
  A5 Tryz.prog 40=false ∧
  A3 Tryz.prog 40 0=some (0,2,true) ∧
  A3 Tryz.prog 40 1=some (2,2,true) ∧
  fieldsOf Tryz.prog 40=some [(0,2),(2,2)] ∧
  szOf Tryz.prog 41=some 4 ∧
  aggT Tryz.prog 41=some true ∧
  An Tryz.prog 41=some [.prim (.bool false),.frz [] .nilc,.prim (.bool false),.frz [] .nilc] ∧
  A5 Tryz.prog 41=false ∧
  A3 Tryz.prog 41 0=some (0,2,true) ∧
  A3 Tryz.prog 41 1=some (2,2,true) ∧
  fieldsOf Tryz.prog 41=some [(0,2),(2,2)] ∧
  szOf Tryz.prog 43=some 1 ∧
  aggT Tryz.prog 43=some false ∧
  An Tryz.prog 43=some [.prim .nilFunc] ∧
  A5 Tryz.prog 43=false ∧
  szOf Tryz.prog 44=some 1 ∧
  aggT Tryz.prog 44=some false ∧
  An Tryz.prog 44=some [.prim .nilFunc] ∧
  A5 Tryz.prog 44=false ∧
  szOf Tryz.prog 45=some 1 ∧
  aggT Tryz.prog 45=some false ∧
  An Tryz.prog 45=some [.prim .nilFunc] ∧
  A5 Tryz.prog 45=false ∧
  szOf Tryz.prog 46=some 1 ∧
  aggT Tryz.prog 46=some false ∧
  An Tryz.prog 46=some [.prim .nilFunc] ∧
  A5 Tryz.prog 46=false ∧
  szOf Tryz.prog 48=some 1 ∧
  aggT Tryz.prog 48=some false ∧
  An Tryz.prog 48=some [.prim .nilFunc] ∧
  A5 Tryz.prog 48=false ∧
  szOf Tryz.prog 49=some 1 ∧
  aggT Tryz.prog 49=some false ∧
  An Tryz.prog 49=some [.prim .nilFunc] ∧
  A5 Tryz.prog 49=false ∧
  szOf Tryz.prog 50=some 1 ∧
  aggT Tryz.prog 50=some false ∧
  An Tryz.prog 50=some [.prim .nilFunc] ∧
  A5 Tryz.prog 50=false ∧
  szOf Tryz.prog 51=some 1 ∧
  aggT Tryz.prog 51=some false ∧
  An Tryz.prog 51=some [.frz [] .nilc] ∧
  Bt Tryz.prog 51=some 39 ∧
  apT Tryz.prog 51=some 2 ∧
  A5 Tryz.prog 51=false ∧
  szOf Tryz.prog 53=some 1 ∧
  aggT Tryz.prog 53=some false ∧
  An Tryz.prog 53=some [.prim .nilFunc] ∧
  A5 Tryz.prog 53=false ∧
  szOf Tryz.prog 54=some 1 ∧
  aggT Tryz.prog 54=some false ∧
  An Tryz.prog 54=some [.frz [] .nilc] ∧
  Bt Tryz.prog 54=some 41 ∧
  apT Tryz.prog 54=some 4 ∧
  A5 Tryz.prog 54=false ∧
  szOf Tryz.prog 56=some 1 ∧
  aggT Tryz.prog 56=some false ∧
  An Tryz.prog 56=some [.prim .nilFunc] ∧
  A5 Tryz.prog 56=false ∧
  szOf Tryz.prog 57=some 1 ∧
  aggT Tryz.prog 57=some false ∧
  An Tryz.prog 57=some [.prim .nilFunc] ∧
  A5 Tryz.prog 57=false ∧
  szOf Tryz.prog 59=some 1 ∧
  aggT Tryz.prog 59=some false ∧
  An Tryz.prog 59=some [.prim .nilFunc] ∧
  A5 Tryz.prog 59=false ∧
  szOf Tryz.prog 60=some 1 ∧
  aggT Tryz.prog 60=some false ∧
  An Tryz.prog 60=some [.prim .nilFunc] ∧
  A5 Tryz.prog 60=false ∧
  szOf Tryz.prog 61=some 1 ∧
  aggT Tryz.prog 61=some false ∧
  An Tryz.prog 61=some [.prim .nilFunc] ∧
  A5 Tryz.prog 61=false ∧
  szOf Tryz.prog 62=some 1 ∧
  aggT Tryz.prog 62=some false ∧
  An Tryz.prog 62=some [.prim .nilFunc] ∧
  A5 Tryz.prog 62=false ∧
  szOf Tryz.prog 63=some 8 ∧
  aggT Tryz.prog 63=some true ∧
  An Tryz.prog 63=some [.prim (.bool false),.frz [] .nilc,.frz [] .nilc,.prim (.bool false),.frz [] .nilc,.prim (.bool false),.frz [] .nilc,.prim (.bool false)] ∧
  A5 Tryz.prog 63=false ∧
  A3 Tryz.prog 63 0=some (0,1,false) ∧
  A3 Tryz.prog 63 1=some (1,1,false) ∧
  A3 Tryz.prog 63 2=some (2,1,false) ∧
  A3 Tryz.prog 63 3=some (3,4,true) ∧
  A3 Tryz.prog 63 4=some (7,1,false) ∧
  fieldsOf Tryz.prog 63=some [(0,1),(1,1),(2,1),(3,4),(7,1)] ∧
  szOf Tryz.prog 64=some 8 ∧
  aggT Tryz.prog 64=some true ∧
  An Tryz.prog 64=some [.prim (.bool false),.frz [] .nilc,.frz [] .nilc,.prim (.bool false),.frz [] .nilc,.prim (.bool false),.frz [] .nilc,.prim (.bool false)] ∧
  A5 Tryz.prog 64=false ∧
  A3 Tryz.prog 64 0=some (0,1,false) ∧
  A3 Tryz.prog 64 1=some (1,1,false) ∧
  A3 Tryz.prog 64 2=some (2,1,false) ∧
  A3 Tryz.prog 64 3=some (3,4,true) ∧
  A3 Tryz.prog 64 4=some (7,1,false) ∧
  fieldsOf Tryz.prog 64=some [(0,1),(1,1),(2,1),(3,4),(7,1)] ∧
  szOf Tryz.prog 65=some 1 ∧
  aggT Tryz.prog 65=some false ∧
  An Tryz.prog 65=some [.prim .nilFunc] ∧
  A5 Tryz.prog 65=false ∧
  szOf Tryz.prog 66=some 1 ∧
  aggT Tryz.prog 66=some false ∧
  An Tryz.prog 66=some [.prim (.pointer none)] ∧
  A5 Tryz.prog 66=false ∧
  szOf Tryz.prog 67=some 1 ∧
  aggT Tryz.prog 67=some false ∧
  An Tryz.prog 67=some [.prim .nilFunc] ∧
  A5 Tryz.prog 67=false ∧
  szOf Tryz.prog 68=some 1 ∧
  aggT Tryz.prog 68=some false ∧
  An Tryz.prog 68=some [.prim (.pointer none)] ∧
  A5 Tryz.prog 68=false ∧
  szOf Tryz.prog 69=some 2 ∧
  aggT Tryz.prog 69=some true ∧
  An Tryz.prog 69=some [.prim (.string ⟨#[]⟩),.prim (.int .i64 0)] ∧
  A5 Tryz.prog 69=false ∧
  A3 Tryz.prog 69 0=some (0,1,false) ∧
  A3 Tryz.prog 69 1=some (1,1,false) ∧
  fieldsOf Tryz.prog 69=some [(0,1),(1,1)] ∧
  L6 Tryz.prog 69=some [2,1] ∧
  szOf Tryz.prog 70=some 2 ∧
  aggT Tryz.prog 70=some true ∧
  An Tryz.prog 70=some [.prim (.string ⟨#[]⟩),.prim (.int .i64 0)] ∧
  A5 Tryz.prog 70=false ∧
  A3 Tryz.prog 70 0=some (0,1,false) ∧
  A3 Tryz.prog 70 1=some (1,1,false) ∧
  fieldsOf Tryz.prog 70=some [(0,1),(1,1)] ∧
  L6 Tryz.prog 70=some [2,1] ∧
  szOf Tryz.prog 71=some 1 ∧
  aggT Tryz.prog 71=some false ∧
  An Tryz.prog 71=some [.prim .nilFunc] ∧
  A5 Tryz.prog 71=false ∧
  szOf Tryz.prog 72=some 1 ∧
  aggT Tryz.prog 72=some false ∧
  An Tryz.prog 72=some [.frz [] .nilc] ∧
  Bt Tryz.prog 72=some 54 ∧
  apT Tryz.prog 72=some 1 ∧
  A5 Tryz.prog 72=false ∧
  szOf Tryz.prog 73=some 1 ∧
  aggT Tryz.prog 73=some false ∧
  An Tryz.prog 73=some [.frz [] .nilc] ∧
  Bt Tryz.prog 73=some 4 ∧
  apT Tryz.prog 73=some 1 ∧
  A5 Tryz.prog 73=false ∧
  szOf Tryz.prog 74=some 6 ∧
  aggT Tryz.prog 74=some true ∧
  An Tryz.prog 74=some [.frz [] .nilc,.frz [] .nilc,.frz [] .nilc,.frz [] .nilc,.frz [] .nilc,.prim (.int .i64 0)] ∧
  A5 Tryz.prog 74=false ∧
  A3 Tryz.prog 74 0=some (0,1,false) ∧
  A3 Tryz.prog 74 1=some (1,1,false) ∧
  A3 Tryz.prog 74 2=some (2,1,false) ∧
  A3 Tryz.prog 74 3=some (3,1,false) ∧
  A3 Tryz.prog 74 4=some (4,1,false) ∧
  A3 Tryz.prog 74 5=some (5,1,false) ∧
  fieldsOf Tryz.prog 74=some [(0,1),(1,1),(2,1),(3,1),(4,1),(5,1)] ∧
  szOf Tryz.prog 75=some 6 ∧
  aggT Tryz.prog 75=some true ∧
  An Tryz.prog 75=some [.frz [] .nilc,.frz [] .nilc,.frz [] .nilc,.frz [] .nilc,.frz [] .nilc,.prim (.int .i64 0)] ∧
  A5 Tryz.prog 75=false ∧
  A3 Tryz.prog 75 0=some (0,1,false) ∧
  A3 Tryz.prog 75 1=some (1,1,false) ∧
  A3 Tryz.prog 75 2=some (2,1,false) ∧
  A3 Tryz.prog 75 3=some (3,1,false) ∧
  A3 Tryz.prog 75 4=some (4,1,false) ∧
  A3 Tryz.prog 75 5=some (5,1,false) ∧
  fieldsOf Tryz.prog 75=some [(0,1),(1,1),(2,1),(3,1),(4,1),(5,1)] ∧
  szOf Tryz.prog 76=some 1 ∧
  aggT Tryz.prog 76=some false ∧
  An Tryz.prog 76=some [.prim .nilFunc] ∧
  A5 Tryz.prog 76=false ∧
  szOf Tryz.prog 77=some 1 ∧
  aggT Tryz.prog 77=some false ∧
  An Tryz.prog 77=some [.prim .nilFunc] ∧
  A5 Tryz.prog 77=false ∧
  szOf Tryz.prog 78=some 1 ∧
  aggT Tryz.prog 78=some false ∧
  An Tryz.prog 78=some [.prim .nilFunc] ∧
  A5 Tryz.prog 78=false ∧
  szOf Tryz.prog 79=some 1 ∧
  aggT Tryz.prog 79=some false ∧
  An Tryz.prog 79=some [.prim .nilFunc] ∧
  A5 Tryz.prog 79=false ∧
  szOf Tryz.prog 80=some 1 ∧
  aggT Tryz.prog 80=some false ∧
  An Tryz.prog 80=some [.prim .nilFunc] ∧
  A5 Tryz.prog 80=false ∧
  szOf Tryz.prog 81=some 1 ∧
  aggT Tryz.prog 81=some false ∧
  An Tryz.prog 81=some [.prim .nilFunc] ∧
  A5 Tryz.prog 81=false ∧
  szOf Tryz.prog 82=some 1 ∧
  aggT Tryz.prog 82=some false ∧
  An Tryz.prog 82=some [.prim .nilFunc] ∧
  A5 Tryz.prog 82=false ∧
  szOf Tryz.prog 83=some 1 ∧
  aggT Tryz.prog 83=some false ∧
  An Tryz.prog 83=some [.prim .nilFunc] ∧
  A5 Tryz.prog 83=false ∧
  szOf Tryz.prog 84=some 1 ∧
  aggT Tryz.prog 84=some false ∧
  An Tryz.prog 84=some [.prim .nilFunc] ∧
  A5 Tryz.prog 84=false ∧
  szOf Tryz.prog 86=some 1 ∧
  aggT Tryz.prog 86=some false ∧
  An Tryz.prog 86=some [.prim .nilFunc] ∧
  A5 Tryz.prog 86=false ∧
  szOf Tryz.prog 87=some 1 ∧
  aggT Tryz.prog 87=some false ∧
  An Tryz.prog 87=some [.prim .nilFunc] ∧
  A5 Tryz.prog 87=false ∧
  szOf Tryz.prog 88=some 1 ∧
  aggT Tryz.prog 88=some false ∧
  An Tryz.prog 88=some [.prim .nilFunc] ∧
  A5 Tryz.prog 88=false ∧
  szOf Tryz.prog 89=some 1 ∧
  aggT Tryz.prog 89=some false ∧
  An Tryz.prog 89=some [.prim .nilFunc] ∧
  A5 Tryz.prog 89=false ∧
  szOf Tryz.prog 90=some 1 ∧
  aggT Tryz.prog 90=some false ∧
  An Tryz.prog 90=some [.prim .nilFunc] ∧
  A5 Tryz.prog 90=false ∧
  szOf Tryz.prog 92=some 1 ∧
  aggT Tryz.prog 92=some false ∧
  An Tryz.prog 92=some [.prim .nilFunc] ∧
  A5 Tryz.prog 92=false ∧
  szOf Tryz.prog 93=some 2 ∧
  aggT Tryz.prog 93=some true ∧
  An Tryz.prog 93=some [.prim (.int .i64 0),.prim (.int .i64 0)] ∧
  A5 Tryz.prog 93=false ∧
  A3 Tryz.prog 93 0=some (0,1,false) ∧
  A3 Tryz.prog 93 1=some (1,1,false) ∧
  fieldsOf Tryz.prog 93=some [(0,1),(1,1)] ∧
  L6 Tryz.prog 93=some [1,1] ∧
  szOf Tryz.prog 94=some 2 ∧
  aggT Tryz.prog 94=some true ∧
  An Tryz.prog 94=some [.prim (.int .i64 0),.prim (.int .i64 0)] ∧
  A5 Tryz.prog 94=false ∧
  A3 Tryz.prog 94 0=some (0,1,false) ∧
  A3 Tryz.prog 94 1=some (1,1,false) ∧
  fieldsOf Tryz.prog 94=some [(0,1),(1,1)] ∧
  L6 Tryz.prog 94=some [1,1] ∧
  szOf Tryz.prog 95=some 1 ∧
  aggT Tryz.prog 95=some false ∧
  An Tryz.prog 95=some [.prim (.pointer none)] ∧
  A5 Tryz.prog 95=false ∧
  szOf Tryz.prog 96=some 1 ∧
  aggT Tryz.prog 96=some true ∧
  An Tryz.prog 96=some [.prim (.bool false)] ∧
  A5 Tryz.prog 96=false ∧
  A3 Tryz.prog 96 0=some (0,1,false) ∧
  fieldsOf Tryz.prog 96=some [(0,1)] ∧
  L6 Tryz.prog 96=some [0] ∧
  szOf Tryz.prog 97=some 1 ∧
  aggT Tryz.prog 97=some true ∧
  An Tryz.prog 97=some [.prim (.bool false)] ∧
  A5 Tryz.prog 97=false ∧
  A3 Tryz.prog 97 0=some (0,1,false) ∧
  fieldsOf Tryz.prog 97=some [(0,1)] ∧
  L6 Tryz.prog 97=some [0] ∧
  szOf Tryz.prog 98=some 1 ∧
  aggT Tryz.prog 98=some false ∧
  An Tryz.prog 98=some [.prim .nilFunc] ∧
  A5 Tryz.prog 98=false ∧
  szOf Tryz.prog 99=some 0 ∧
  aggT Tryz.prog 99=some true ∧
  An Tryz.prog 99=some [] ∧
  A5 Tryz.prog 99=false ∧
  szOf Tryz.prog 100=some 0 ∧
  aggT Tryz.prog 100=some true ∧
  An Tryz.prog 100=some [] ∧
  A5 Tryz.prog 100=false ∧
  szOf Tryz.prog 101=some 1 ∧
  aggT Tryz.prog 101=some false ∧
  An Tryz.prog 101=some [.prim .nilFunc] ∧
  A5 Tryz.prog 101=false ∧
  szOf Tryz.prog 102=some 1 ∧
  aggT Tryz.prog 102=some false ∧
  An Tryz.prog 102=some [.prim .nilFunc] ∧
  A5 Tryz.prog 102=false ∧
  szOf Tryz.prog 103=some 1 ∧
  aggT Tryz.prog 103=some false ∧
  An Tryz.prog 103=some [.prim .nilFunc] ∧
  A5 Tryz.prog 103=false ∧
  szOf Tryz.prog 104=some 1 ∧
  aggT Tryz.prog 104=some false ∧
  An Tryz.prog 104=some [.prim .nilFunc] ∧
  A5 Tryz.prog 104=false ∧
  szOf Tryz.prog 106=some 1 ∧
  aggT Tryz.prog 106=some false ∧
  An Tryz.prog 106=some [.prim .nilFunc] ∧
  A5 Tryz.prog 106=false ∧
  szOf Tryz.prog 107=some 1 ∧
  aggT Tryz.prog 107=some false ∧
  An Tryz.prog 107=some [.prim .nilFunc] ∧
  A5 Tryz.prog 107=false ∧
  szOf Tryz.prog 108=some 1 ∧
  aggT Tryz.prog 108=some false ∧
  An Tryz.prog 108=some [.prim .nilFunc] ∧
  A5 Tryz.prog 108=false ∧
  szOf Tryz.prog 110=some 1 ∧
  aggT Tryz.prog 110=some false ∧
  An Tryz.prog 110=some [.prim .nilFunc] ∧
  A5 Tryz.prog 110=false ∧
  szOf Tryz.prog 111=some 1 ∧
  aggT Tryz.prog 111=some false ∧
  An Tryz.prog 111=some [.prim .nilFunc] ∧
  A5 Tryz.prog 111=false ∧
  szOf Tryz.prog 112=some 1 ∧
  aggT Tryz.prog 112=some false ∧
  An Tryz.prog 112=some [.prim .nilFunc] ∧
  A5 Tryz.prog 112=false ∧
  szOf Tryz.prog 114=some 1 ∧
  aggT Tryz.prog 114=some false ∧
  An Tryz.prog 114=some [.prim .nilFunc] ∧
  A5 Tryz.prog 114=false ∧
  szOf Tryz.prog 116=some 1 ∧
  aggT Tryz.prog 116=some false ∧
  An Tryz.prog 116=some [.prim .nilFunc] ∧
  A5 Tryz.prog 116=false ∧
  szOf Tryz.prog 117=some 1 ∧
  aggT Tryz.prog 117=some false ∧
  An Tryz.prog 117=some [.prim .nilFunc] ∧
  A5 Tryz.prog 117=false ∧
  szOf Tryz.prog 118=some 1 ∧
  aggT Tryz.prog 118=some false ∧
  An Tryz.prog 118=some [.prim .nilFunc] ∧
  A5 Tryz.prog 118=false ∧
  szOf Tryz.prog 119=some 1 ∧
  aggT Tryz.prog 119=some false ∧
  An Tryz.prog 119=some [.prim .nilFunc] ∧
  A5 Tryz.prog 119=false ∧
  szOf Tryz.prog 120=some 1 ∧
  aggT Tryz.prog 120=some false ∧
  An Tryz.prog 120=some [.prim .nilIface] ∧
  A5 Tryz.prog 120=false ∧
  szOf Tryz.prog 121=some 1 ∧
  aggT Tryz.prog 121=some false ∧
  An Tryz.prog 121=some [.prim .nilIface] ∧
  A5 Tryz.prog 121=false ∧
  szOf Tryz.prog 122=some 1 ∧
  aggT Tryz.prog 122=some false ∧
  An Tryz.prog 122=some [.prim (.pointer none)] ∧
  A5 Tryz.prog 122=false ∧
  szOf Tryz.prog 123=some 1 ∧
  aggT Tryz.prog 123=some false ∧
  An Tryz.prog 123=some [.prim .nilFunc] ∧
  A5 Tryz.prog 123=false ∧
  szOf Tryz.prog 124=some 1 ∧
  aggT Tryz.prog 124=some false ∧
  An Tryz.prog 124=some [.prim .nilFunc] ∧
  A5 Tryz.prog 124=false ∧
  szOf Tryz.prog 125=some 1 ∧
  aggT Tryz.prog 125=some false ∧
  An Tryz.prog 125=some [.prim .nilFunc] ∧
  A5 Tryz.prog 125=false ∧
  szOf Tryz.prog 126=some 1 ∧
  aggT Tryz.prog 126=some false ∧
  An Tryz.prog 126=some [.prim .nilIface] ∧
  A5 Tryz.prog 126=false ∧
  szOf Tryz.prog 127=some 1 ∧
  aggT Tryz.prog 127=some false ∧
  An Tryz.prog 127=some [.prim .nilIface] ∧
  A5 Tryz.prog 127=false ∧
  szOf Tryz.prog 128=some 1 ∧
  aggT Tryz.prog 128=some false ∧
  An Tryz.prog 128=some [.prim (.pointer none)] ∧
  A5 Tryz.prog 128=false ∧
  szOf Tryz.prog 129=some 1 ∧
  aggT Tryz.prog 129=some false ∧
  An Tryz.prog 129=some [.prim .nilFunc] ∧
  A5 Tryz.prog 129=false ∧
  szOf Tryz.prog 130=some 1 ∧
  aggT Tryz.prog 130=some false ∧
  An Tryz.prog 130=some [.prim (.int .u64 0)] ∧
  Gf Tryz.prog 130=some .u64 ∧
  A5 Tryz.prog 130=false ∧
  szOf Tryz.prog 131=some 1 ∧
  aggT Tryz.prog 131=some false ∧
  An Tryz.prog 131=some [.prim .nilFunc] ∧
  A5 Tryz.prog 131=false ∧
  szOf Tryz.prog 132=some 1 ∧
  aggT Tryz.prog 132=some false ∧
  An Tryz.prog 132=some [.prim .nilFunc] ∧
  A5 Tryz.prog 132=false ∧
  szOf Tryz.prog 133=some 1 ∧
  aggT Tryz.prog 133=some false ∧
  An Tryz.prog 133=some [.prim .nilFunc] ∧
  A5 Tryz.prog 133=false ∧
  szOf Tryz.prog 134=some 1 ∧
  aggT Tryz.prog 134=some false ∧
  An Tryz.prog 134=some [.prim .nilFunc] ∧
  A5 Tryz.prog 134=false ∧
  szOf Tryz.prog 135=some 1 ∧
  aggT Tryz.prog 135=some false ∧
  An Tryz.prog 135=some [.prim .nilFunc] ∧
  A5 Tryz.prog 135=false ∧
  szOf Tryz.prog 136=some 1 ∧
  aggT Tryz.prog 136=some false ∧
  An Tryz.prog 136=some [.prim (.int .u64 0)] ∧
  Gf Tryz.prog 136=some .u64 ∧
  A5 Tryz.prog 136=false ∧
  szOf Tryz.prog 137=some 1 ∧
  aggT Tryz.prog 137=some false ∧
  An Tryz.prog 137=some [.frz [] .nilc] ∧
  Bt Tryz.prog 137=some 138 ∧
  apT Tryz.prog 137=some 1 ∧
  A5 Tryz.prog 137=false ∧
  szOf Tryz.prog 138=some 1 ∧
  aggT Tryz.prog 138=some false ∧
  An Tryz.prog 138=some [.frz [] .nilc] ∧
  Bt Tryz.prog 138=some 94 ∧
  apT Tryz.prog 138=some 2 ∧
  A5 Tryz.prog 138=false ∧
  szOf Tryz.prog 139=some 7 ∧
  aggT Tryz.prog 139=some true ∧
  An Tryz.prog 139=some [.prim .nilIface,.prim (.int .i64 0),.prim (.int .i64 0),.frz [] .nilc,.frz [] .nilc,.frz [] .nilc,.frz [] .nilc] ∧
  A5 Tryz.prog 139=false ∧
  A3 Tryz.prog 139 0=some (0,1,false) ∧
  A3 Tryz.prog 139 1=some (1,1,false) ∧
  A3 Tryz.prog 139 2=some (2,1,false) ∧
  A3 Tryz.prog 139 3=some (3,1,false) ∧
  A3 Tryz.prog 139 4=some (4,1,false) ∧
  A3 Tryz.prog 139 5=some (5,1,false) ∧
  A3 Tryz.prog 139 6=some (6,1,false) ∧
  fieldsOf Tryz.prog 139=some [(0,1),(1,1),(2,1),(3,1),(4,1),(5,1),(6,1)] ∧
  szOf Tryz.prog 140=some 7 ∧
  aggT Tryz.prog 140=some true ∧
  An Tryz.prog 140=some [.prim .nilIface,.prim (.int .i64 0),.prim (.int .i64 0),.frz [] .nilc,.frz [] .nilc,.frz [] .nilc,.frz [] .nilc] ∧
  A5 Tryz.prog 140=false ∧
  A3 Tryz.prog 140 0=some (0,1,false) ∧
  A3 Tryz.prog 140 1=some (1,1,false) ∧
  A3 Tryz.prog 140 2=some (2,1,false) ∧
  A3 Tryz.prog 140 3=some (3,1,false) ∧
  A3 Tryz.prog 140 4=some (4,1,false) ∧
  A3 Tryz.prog 140 5=some (5,1,false) ∧
  A3 Tryz.prog 140 6=some (6,1,false) ∧
  fieldsOf Tryz.prog 140=some [(0,1),(1,1),(2,1),(3,1),(4,1),(5,1),(6,1)] ∧
  szOf Tryz.prog 141=some 1 ∧
  aggT Tryz.prog 141=some false ∧
  An Tryz.prog 141=some [.prim .nilFunc] ∧
  A5 Tryz.prog 141=false ∧
  szOf Tryz.prog 142=some 1 ∧
  aggT Tryz.prog 142=some false ∧
  An Tryz.prog 142=some [.prim .nilFunc] ∧
  A5 Tryz.prog 142=false ∧
  szOf Tryz.prog 143=some 1 ∧
  aggT Tryz.prog 143=some false ∧
  An Tryz.prog 143=some [.prim .nilFunc] ∧
  A5 Tryz.prog 143=false ∧
  szOf Tryz.prog 144=some 1 ∧
  aggT Tryz.prog 144=some false ∧
  An Tryz.prog 144=some [.prim .nilFunc] ∧
  A5 Tryz.prog 144=false ∧
  szOf Tryz.prog 145=some 1 ∧
  aggT Tryz.prog 145=some false ∧
  An Tryz.prog 145=some [.prim .nilFunc] ∧
  A5 Tryz.prog 145=false ∧
  szOf Tryz.prog 146=some 7 ∧
  aggT Tryz.prog 146=some true ∧
  An Tryz.prog 146=some [.prim .nilIface,.prim (.int .i64 0),.prim (.int .i64 0),.frz [] .nilc,.frz [] .nilc,.frz [] .nilc,.frz [] .nilc] ∧
  A5 Tryz.prog 146=false ∧
  A3 Tryz.prog 146 0=some (0,1,false) ∧
  A3 Tryz.prog 146 1=some (1,1,false) ∧
  A3 Tryz.prog 146 2=some (2,1,false) ∧
  A3 Tryz.prog 146 3=some (3,1,false) ∧
  A3 Tryz.prog 146 4=some (4,1,false) ∧
  A3 Tryz.prog 146 5=some (5,1,false) ∧
  A3 Tryz.prog 146 6=some (6,1,false) ∧
  fieldsOf Tryz.prog 146=some [(0,1),(1,1),(2,1),(3,1),(4,1),(5,1),(6,1)] ∧
  szOf Tryz.prog 147=some 7 ∧
  aggT Tryz.prog 147=some true ∧
  An Tryz.prog 147=some [.prim .nilIface,.prim (.int .i64 0),.prim (.int .i64 0),.frz [] .nilc,.frz [] .nilc,.frz [] .nilc,.frz [] .nilc] ∧
  A5 Tryz.prog 147=false ∧
  A3 Tryz.prog 147 0=some (0,1,false) ∧
  A3 Tryz.prog 147 1=some (1,1,false) ∧
  A3 Tryz.prog 147 2=some (2,1,false) ∧
  A3 Tryz.prog 147 3=some (3,1,false) ∧
  A3 Tryz.prog 147 4=some (4,1,false) ∧
  A3 Tryz.prog 147 5=some (5,1,false) ∧
  A3 Tryz.prog 147 6=some (6,1,false) ∧
  fieldsOf Tryz.prog 147=some [(0,1),(1,1),(2,1),(3,1),(4,1),(5,1),(6,1)] ∧
  szOf Tryz.prog 148=some 1 ∧
  aggT Tryz.prog 148=some false ∧
  An Tryz.prog 148=some [.prim .nilFunc] ∧
  A5 Tryz.prog 148=false ∧
  szOf Tryz.prog 149=some 1 ∧
  aggT Tryz.prog 149=some false ∧
  An Tryz.prog 149=some [.prim .nilFunc] ∧
  A5 Tryz.prog 149=false ∧
  szOf Tryz.prog 150=some 1 ∧
  aggT Tryz.prog 150=some false ∧
  An Tryz.prog 150=some [.prim .nilFunc] ∧
  A5 Tryz.prog 150=false ∧
  szOf Tryz.prog 151=some 1 ∧
  aggT Tryz.prog 151=some false ∧
  An Tryz.prog 151=some [.prim .nilFunc] ∧
  A5 Tryz.prog 151=false ∧
  szOf Tryz.prog 152=some 1 ∧
  aggT Tryz.prog 152=some false ∧
  An Tryz.prog 152=some [.prim (.int .i64 0)] ∧
  Gf Tryz.prog 152=some .i64 ∧
  A5 Tryz.prog 152=false ∧
  szOf Tryz.prog 154=some 1 ∧
  aggT Tryz.prog 154=some false ∧
  An Tryz.prog 154=some [.prim .nilFunc] ∧
  A5 Tryz.prog 154=false ∧
  szOf Tryz.prog 155=some 1 ∧
  aggT Tryz.prog 155=some false ∧
  An Tryz.prog 155=some [.prim .nilFunc] ∧
  A5 Tryz.prog 155=false ∧
  szOf Tryz.prog 156=some 1 ∧
  aggT Tryz.prog 156=some false ∧
  An Tryz.prog 156=some [.prim .nilFunc] ∧
  A5 Tryz.prog 156=false ∧
  szOf Tryz.prog 157=some 1 ∧
  aggT Tryz.prog 157=some false ∧
  An Tryz.prog 157=some [.prim .nilFunc] ∧
  A5 Tryz.prog 157=false ∧
  szOf Tryz.prog 158=some 1 ∧
  aggT Tryz.prog 158=some false ∧
  An Tryz.prog 158=some [.prim .nilFunc] ∧
  A5 Tryz.prog 158=false ∧
  szOf Tryz.prog 159=some 1 ∧
  aggT Tryz.prog 159=some false ∧
  An Tryz.prog 159=some [.prim .nilFunc] ∧
  A5 Tryz.prog 159=false ∧
  szOf Tryz.prog 160=some 1 ∧
  aggT Tryz.prog 160=some false ∧
  An Tryz.prog 160=some [.prim (.int .u32 0)] ∧
  Gf Tryz.prog 160=some .u32 ∧
  A5 Tryz.prog 160=false ∧
  szOf Tryz.prog 161=some 1 ∧
  aggT Tryz.prog 161=some false ∧
  An Tryz.prog 161=some [.prim .nilFunc] ∧
  A5 Tryz.prog 161=false ∧
  szOf Tryz.prog 162=some 1 ∧
  aggT Tryz.prog 162=some false ∧
  An Tryz.prog 162=some [.prim (.int .u64 0)] ∧
  Gf Tryz.prog 162=some .u64 ∧
  A5 Tryz.prog 162=false ∧
  szOf Tryz.prog 163=some 1 ∧
  aggT Tryz.prog 163=some false ∧
  An Tryz.prog 163=some [.prim .nilFunc] ∧
  A5 Tryz.prog 163=false ∧
  szOf Tryz.prog 164=some 1 ∧
  aggT Tryz.prog 164=some false ∧
  An Tryz.prog 164=some [.prim .nilFunc] ∧
  A5 Tryz.prog 164=false ∧
  szOf Tryz.prog 165=some 1 ∧
  aggT Tryz.prog 165=some false ∧
  An Tryz.prog 165=some [.prim .nilFunc] ∧
  A5 Tryz.prog 165=false ∧
  szOf Tryz.prog 166=some 1 ∧
  aggT Tryz.prog 166=some false ∧
  An Tryz.prog 166=some [.prim (.pointer none)] ∧
  A5 Tryz.prog 166=false ∧
  szOf Tryz.prog 167=some 1 ∧
  aggT Tryz.prog 167=some false ∧
  An Tryz.prog 167=some [.prim .nilFunc] ∧
  A5 Tryz.prog 167=false ∧
  szOf Tryz.prog 168=some 1 ∧
  aggT Tryz.prog 168=some false ∧
  An Tryz.prog 168=some [.prim .nilFunc] ∧
  A5 Tryz.prog 168=false ∧
  szOf Tryz.prog 169=some 1 ∧
  aggT Tryz.prog 169=some false ∧
  An Tryz.prog 169=some [.prim (.pointer none)] ∧
  A5 Tryz.prog 169=false ∧
  szOf Tryz.prog 171=some 1 ∧
  aggT Tryz.prog 171=some false ∧
  An Tryz.prog 171=some [.prim .nilFunc] ∧
  A5 Tryz.prog 171=false ∧
  szOf Tryz.prog 172=some 1 ∧
  aggT Tryz.prog 172=some false ∧
  An Tryz.prog 172=some [.prim .nilFunc] ∧
  A5 Tryz.prog 172=false ∧
  szOf Tryz.prog 180=some 1 ∧
  aggT Tryz.prog 180=some false ∧
  An Tryz.prog 180=some [.prim .nilFunc] ∧
  A5 Tryz.prog 180=false ∧
  szOf Tryz.prog 181=some 1 ∧
  aggT Tryz.prog 181=some false ∧
  An Tryz.prog 181=some [.prim (.pointer none)] ∧
  A5 Tryz.prog 181=false ∧
  szOf Tryz.prog 186=some 1 ∧
  aggT Tryz.prog 186=some false ∧
  An Tryz.prog 186=some [.prim .nilFunc] ∧
  A5 Tryz.prog 186=false ∧
  szOf Tryz.prog 187=some 1 ∧
  aggT Tryz.prog 187=some false ∧
  An Tryz.prog 187=some [.prim .nilFunc] ∧
  A5 Tryz.prog 187=false ∧
  szOf Tryz.prog 188=some 2 ∧
  aggT Tryz.prog 188=some true ∧
  An Tryz.prog 188=some [.prim (.bool false),.frz [] .nilc] ∧
  A5 Tryz.prog 188=false ∧
  A3 Tryz.prog 188 0=some (0,1,false) ∧
  A3 Tryz.prog 188 1=some (1,1,false) ∧
  fieldsOf Tryz.prog 188=some [(0,1),(1,1)] ∧
  szOf Tryz.prog 189=some 2 ∧
  aggT Tryz.prog 189=some true ∧
  An Tryz.prog 189=some [.prim (.bool false),.frz [] .nilc] ∧
  A5 Tryz.prog 189=false ∧
  A3 Tryz.prog 189 0=some (0,1,false) ∧
  A3 Tryz.prog 189 1=some (1,1,false) ∧
  fieldsOf Tryz.prog 189=some [(0,1),(1,1)] ∧
  szOf Tryz.prog 190=some 1 ∧
  aggT Tryz.prog 190=some false ∧
  An Tryz.prog 190=some [.prim .nilFunc] ∧
  A5 Tryz.prog 190=false ∧
  szOf Tryz.prog 191=some 1 ∧
  aggT Tryz.prog 191=some false ∧
  An Tryz.prog 191=some [.prim .nilFunc] ∧
  A5 Tryz.prog 191=false ∧
  szOf Tryz.prog 192=some 1 ∧
  aggT Tryz.prog 192=some false ∧
  An Tryz.prog 192=some [.prim .nilFunc] ∧
  A5 Tryz.prog 192=false ∧
  szOf Tryz.prog 193=some 1 ∧
  aggT Tryz.prog 193=some false ∧
  An Tryz.prog 193=some [.prim .nilFunc] ∧
  A5 Tryz.prog 193=false ∧
  szOf Tryz.prog 194=some 1 ∧
  aggT Tryz.prog 194=some false ∧
  An Tryz.prog 194=some [.prim .nilFunc] ∧
  A5 Tryz.prog 194=false ∧
  szOf Tryz.prog 195=some 1 ∧
  aggT Tryz.prog 195=some false ∧
  An Tryz.prog 195=some [.prim .nilFunc] ∧
  A5 Tryz.prog 195=false ∧
  szOf Tryz.prog 196=some 1 ∧
  aggT Tryz.prog 196=some false ∧
  An Tryz.prog 196=some [.prim .nilFunc] ∧
  A5 Tryz.prog 196=false ∧
  szOf Tryz.prog 197=some 1 ∧
  aggT Tryz.prog 197=some false ∧
  An Tryz.prog 197=some [.prim .nilFunc] ∧
  A5 Tryz.prog 197=false ∧
  szOf Tryz.prog 198=some 4 ∧
  aggT Tryz.prog 198=some true ∧
  An Tryz.prog 198=some [.prim (.int .i64 0),.prim (.int .i64 0),.prim (.int .i64 0),.prim (.int .i64 0)] ∧
  A5 Tryz.prog 198=false ∧
  A3 Tryz.prog 198 0=some (0,1,false) ∧
  A3 Tryz.prog 198 1=some (1,1,false) ∧
  A3 Tryz.prog 198 2=some (2,1,false) ∧
  A3 Tryz.prog 198 3=some (3,1,false) ∧
  fieldsOf Tryz.prog 198=some [(0,1),(1,1),(2,1),(3,1)] ∧
  L6 Tryz.prog 198=some [1,1,1,1] ∧
  szOf Tryz.prog 199=some 4 ∧
  aggT Tryz.prog 199=some true ∧
  An Tryz.prog 199=some [.prim (.int .i64 0),.prim (.int .i64 0),.prim (.int .i64 0),.prim (.int .i64 0)] ∧
  A5 Tryz.prog 199=false ∧
  A3 Tryz.prog 199 0=some (0,1,false) ∧
  A3 Tryz.prog 199 1=some (1,1,false) ∧
  A3 Tryz.prog 199 2=some (2,1,false) ∧
  A3 Tryz.prog 199 3=some (3,1,false) ∧
  fieldsOf Tryz.prog 199=some [(0,1),(1,1),(2,1),(3,1)] ∧
  L6 Tryz.prog 199=some [1,1,1,1] ∧
  szOf Tryz.prog 201=some 1 ∧
  aggT Tryz.prog 201=some false ∧
  An Tryz.prog 201=some [.prim .nilFunc] ∧
  A5 Tryz.prog 201=false ∧
  szOf Tryz.prog 202=some 1 ∧
  aggT Tryz.prog 202=some false ∧
  An Tryz.prog 202=some [.prim .nilFunc] ∧
  A5 Tryz.prog 202=false ∧
  szOf Tryz.prog 203=some 1 ∧
  aggT Tryz.prog 203=some false ∧
  An Tryz.prog 203=some [.prim .nilFunc] ∧
  A5 Tryz.prog 203=false ∧
  szOf Tryz.prog 204=some 1 ∧
  aggT Tryz.prog 204=some false ∧
  An Tryz.prog 204=some [.prim .nilFunc] ∧
  A5 Tryz.prog 204=false ∧
  szOf Tryz.prog 205=some 2 ∧
  aggT Tryz.prog 205=some true ∧
  An Tryz.prog 205=some [.prim (.bool false),.prim (.int .i64 0)] ∧
  A5 Tryz.prog 205=false ∧
  A3 Tryz.prog 205 0=some (0,1,false) ∧
  A3 Tryz.prog 205 1=some (1,1,false) ∧
  fieldsOf Tryz.prog 205=some [(0,1),(1,1)] ∧
  L6 Tryz.prog 205=some [0,1] ∧
  szOf Tryz.prog 206=some 2 ∧
  aggT Tryz.prog 206=some true ∧
  An Tryz.prog 206=some [.prim (.bool false),.prim (.int .i64 0)] ∧
  A5 Tryz.prog 206=false ∧
  A3 Tryz.prog 206 0=some (0,1,false) ∧
  A3 Tryz.prog 206 1=some (1,1,false) ∧
  fieldsOf Tryz.prog 206=some [(0,1),(1,1)] ∧
  L6 Tryz.prog 206=some [0,1] ∧
  szOf Tryz.prog 207=some 1 ∧
  aggT Tryz.prog 207=some false ∧
  An Tryz.prog 207=some [.prim .nilFunc] ∧
  A5 Tryz.prog 207=false :=
 ⟨by kernel_rfl,by kernel_rfl,by kernel_rfl,by kernel_rfl,by kernel_rfl,by kernel_rfl,by kernel_rfl,by kernel_rfl,by kernel_rfl,by kernel_rfl,by kernel_rfl,by kernel_rfl,by kernel_rfl,by kernel_rfl,by kernel_rfl,by kernel_rfl,by kernel_rfl,by kernel_rfl,by kernel_rfl,by kernel_rfl,by kernel_rfl,by kernel_rfl,by kernel_rfl,by kernel_rfl,by kernel_rfl,by kernel_rfl,by kernel_rfl,by kernel_rfl,by kernel_rfl,by kernel_rfl,by kernel_rfl,by kernel_rfl,by kernel_rfl,by kernel_rfl,by kernel_rfl,by kernel_rfl,by kernel_rfl,by kernel_rfl,by kernel_rfl,by kernel_rfl,by kernel_rfl,by kernel_rfl,by kernel_rfl,by kernel_rfl,by kernel_rfl,by kernel_rfl,by kernel_rfl,by kernel_rfl,by kernel_rfl,by kernel_rfl,by kernel_rfl,by kernel_rfl,by kernel_rfl,by kernel_rfl,by kernel_rfl,by kernel_rfl,by kernel_rfl,by kernel_rfl,by kernel_rfl,by kernel_rfl,by kernel_rfl,by kernel_rfl,by kernel_rfl,by kernel_rfl,by kernel_rfl,by kernel_rfl,by kernel_rfl,by kernel_rfl,by kernel_rfl,by kernel_rfl,by kernel_rfl,by kernel_rfl,by kernel_rfl,by kernel_rfl,by kernel_rfl,by kernel_rfl,by kernel_rfl,by kernel_rfl,by kernel_rfl,by kernel_rfl,by kernel_rfl,by kernel_rfl,by kernel_rfl,by kernel_rfl,by kernel_rfl,by kernel_rfl,by kernel_rfl,by kernel_rfl,by kernel_rfl,by kernel_rfl,by kernel_rfl,by kernel_rfl,by kernel_rfl,by kernel_rfl,by kernel_rfl,by kernel_rfl,by kernel_rfl,by kernel_rfl,by kernel_rfl,by kernel_rfl,by kernel_rfl,by kernel_rfl,by kernel_rfl,by kernel_rfl,by kernel_rfl,by kernel_rfl,by kernel_rfl,by kernel_rfl,by kernel_rfl,by kernel_rfl,by kernel_rfl,by kernel_rfl,by kernel_rfl,by kernel_rfl,by kernel_rfl,by kernel_rfl,by kernel_rfl,by kernel_rfl,by kernel_rfl,by kernel_rfl,by kernel_rfl,by kernel_rfl,by kernel_rfl,by kernel_rfl,by kernel_rfl,by kernel_rfl,by kernel_rfl,by kernel_rfl,by kernel_rfl,by kernel_rfl,by kernel_rfl,by kernel_rfl,by kernel_rfl,by kernel_rfl,by kernel_rfl,by kernel_rfl,by kernel_rfl,by kernel_rfl,by kernel_rfl,by kernel_rfl,by kernel_rfl,by kernel_rfl,by kernel_rfl,by kernel_rfl,by kernel_rfl,by kernel_rfl,by kernel_rfl,by kernel_rfl,by kernel_rfl,by kernel_rfl,by kernel_rfl,by kernel_rfl,by kernel_rfl,by kernel_rfl,by kernel_rfl,by kernel_rfl,by kernel_rfl,by kernel_rfl,by kernel_rfl,by kernel_rfl,by kernel_rfl,by kernel_rfl,by kernel_rfl,by kernel_rfl,by kernel_rfl,by kernel_rfl,by kernel_rfl,by kernel_rfl,by kernel_rfl,by kernel_rfl,by kernel_rfl,by kernel_rfl,by kernel_rfl,by kernel_rfl,by kernel_rfl,by kernel_rfl,by kernel_rfl,by kernel_rfl,by kernel_rfl,by kernel_rfl,by kernel_rfl,by kernel_rfl,by kernel_rfl,by kernel_rfl,by kernel_rfl,by kernel_rfl,by kernel_rfl,by kernel_rfl,by kernel_rfl,by kernel_rfl,by kernel_rfl,by kernel_rfl,by kernel_rfl,by kernel_rfl,by kernel_rfl,by kernel_rfl,by kernel_rfl,by kernel_rfl,by kernel_rfl,by kernel_rfl,by kernel_rfl,by kernel_rfl,by kernel_rfl,by kernel_rfl,by kernel_rfl,by kernel_rfl,by kernel_rfl,by kernel_rfl,by kernel_rfl,by kernel_rfl,by kernel_rfl,by kernel_rfl,by kernel_rfl,by kernel_rfl,by kernel_rfl,by kernel_rfl,by kernel_rfl,by kernel_rfl,by kernel_rfl,by kernel_rfl,by kernel_rfl,by kernel_rfl,by kernel_rfl,by kernel_rfl,by kernel_rfl,by kernel_rfl,by kernel_rfl,by kernel_rfl,by kernel_rfl,by kernel_rfl,by kernel_rfl,by kernel_rfl,by kernel_rfl,by kernel_rfl,by kernel_rfl,by kernel_rfl,by kernel_rfl,by kernel_rfl,by kernel_rfl,by kernel_rfl,by kernel_rfl,by kernel_rfl,by kernel_rfl,by kernel_rfl,by kernel_rfl,by kernel_rfl,by kernel_rfl,by kernel_rfl,by kernel_rfl,by kernel_rfl,by kernel_rfl,by kernel_rfl,by kernel_rfl,by kernel_rfl,by kernel_rfl,by kernel_rfl,by kernel_rfl,by kernel_rfl,by kernel_rfl,by kernel_rfl,by kernel_rfl,by kernel_rfl,by kernel_rfl,by kernel_rfl,by kernel_rfl,by kernel_rfl,by kernel_rfl,by kernel_rfl,by kernel_rfl,by kernel_rfl,by kernel_rfl,by kernel_rfl,by kernel_rfl,by kernel_rfl,by kernel_rfl,by kernel_rfl,by kernel_rfl,by kernel_rfl,by kernel_rfl,by kernel_rfl,by kernel_rfl,by kernel_rfl,by kernel_rfl,by kernel_rfl,by kernel_rfl,by kernel_rfl,by kernel_rfl,by kernel_rfl,by kernel_rfl,by kernel_rfl,by kernel_rfl,by kernel_rfl,by kernel_rfl,by kernel_rfl,by kernel_rfl,by kernel_rfl,by kernel_rfl,by kernel_rfl,by kernel_rfl,by kernel_rfl,by kernel_rfl,by kernel_rfl,by kernel_rfl,by kernel_rfl,by kernel_rfl,by kernel_rfl,by kernel_rfl,by kernel_rfl,by kernel_rfl,by kernel_rfl,by kernel_rfl,by kernel_rfl,by kernel_rfl,by kernel_rfl,by kernel_rfl,by kernel_rfl,by kernel_rfl,by kernel_rfl,by kernel_rfl,by kernel_rfl,by kernel_rfl,by kernel_rfl,by kernel_rfl,by kernel_rfl,by kernel_rfl,by kernel_rfl,by kernel_rfl,by kernel_rfl,by kernel_rfl,by kernel_rfl,by kernel_rfl,by kernel_rfl,by kernel_rfl,by kernel_rfl,by kernel_rfl,by kernel_rfl,by kernel_rfl,by kernel_rfl,by kernel_rfl,by kernel_rfl,by kernel_rfl,by kernel_rfl,by kernel_rfl,by kernel_rfl,by kernel_rfl,by kernel_rfl,by kernel_rfl,by kernel_rfl,by kernel_rfl,by kernel_rfl,by kernel_rfl,by kernel_rfl,by kernel_rfl,by kernel_rfl,by kernel_rfl,by kernel_rfl,by kernel_rfl,by kernel_rfl,by kernel_rfl,by kernel_rfl,by kernel_rfl,by kernel_rfl,by kernel_rfl,by kernel_rfl,by kernel_rfl,by kernel_rfl,by kernel_rfl,by kernel_rfl,by kernel_rfl,by kernel_rfl,by kernel_rfl,by kernel_rfl,by kernel_rfl,by kernel_rfl,by kernel_rfl,by kernel_rfl,by kernel_rfl,by kernel_rfl,by kernel_rfl,by kernel_rfl,by kernel_rfl,by kernel_rfl,by kernel_rfl,by kernel_rfl,by kernel_rfl,by kernel_rfl,by kernel_rfl,by kernel_rfl,by kernel_rfl,by kernel_rfl,by kernel_rfl,by kernel_rfl,by kernel_rfl,by kernel_rfl,by kernel_rfl,by kernel_rfl,by kernel_rfl,by kernel_rfl,by kernel_rfl,by kernel_rfl,by kernel_rfl,by kernel_rfl,by kernel_rfl,by kernel_rfl,by kernel_rfl,by kernel_rfl,by kernel_rfl,by kernel_rfl,by kernel_rfl,by kernel_rfl,by kernel_rfl,by kernel_rfl,by kernel_rfl,by kernel_rfl,by kernel_rfl,by kernel_rfl,by kernel_rfl,by kernel_rfl,by kernel_rfl,by kernel_rfl,by kernel_rfl,by kernel_rfl,by kernel_rfl,by kernel_rfl,by kernel_rfl,by kernel_rfl,by kernel_rfl,by kernel_rfl,by kernel_rfl,by kernel_rfl,by kernel_rfl,by kernel_rfl,by kernel_rfl,by kernel_rfl,by kernel_rfl,by kernel_rfl,by kernel_rfl,by kernel_rfl,by kernel_rfl,by kernel_rfl,by kernel_rfl,by kernel_rfl,by kernel_rfl,by kernel_rfl,by kernel_rfl,by kernel_rfl,by kernel_rfl,by kernel_rfl,by kernel_rfl,by kernel_rfl,by kernel_rfl,by kernel_rfl,by kernel_rfl,by kernel_rfl,by kernel_rfl,by kernel_rfl,by kernel_rfl,by kernel_rfl,by kernel_rfl,by kernel_rfl,by kernel_rfl,by kernel_rfl,by kernel_rfl,by kernel_rfl,by kernel_rfl,by kernel_rfl,by kernel_rfl,by kernel_rfl,by kernel_rfl,by kernel_rfl,by kernel_rfl,by kernel_rfl,by kernel_rfl,by kernel_rfl,by kernel_rfl,by kernel_rfl,by kernel_rfl,by kernel_rfl,by kernel_rfl,by kernel_rfl,by kernel_rfl,by kernel_rfl,by kernel_rfl,by kernel_rfl,by kernel_rfl,by kernel_rfl,by kernel_rfl,by kernel_rfl,by kernel_rfl,by kernel_rfl,by kernel_rfl,by kernel_rfl,by kernel_rfl,by kernel_rfl,by kernel_rfl,by kernel_rfl,by kernel_rfl,by kernel_rfl,by kernel_rfl,by kernel_rfl,by kernel_rfl,by kernel_rfl,by kernel_rfl,by kernel_rfl,by kernel_rfl,by kernel_rfl,by kernel_rfl,by kernel_rfl,by kernel_rfl,by kernel_rfl,by kernel_rfl,by kernel_rfl,by kernel_rfl,by kernel_rfl,by kernel_rfl,by kernel_rfl,by kernel_rfl,by kernel_rfl,by kernel_rfl,by kernel_rfl,by kernel_rfl,by kernel_rfl,by kernel_rfl,by kernel_rfl,by kernel_rfl,by kernel_rfl,by kernel_rfl,by kernel_rfl,by kernel_rfl,by kernel_rfl,by kernel_rfl,by kernel_rfl,by kernel_rfl,by kernel_rfl,by kernel_rfl,by kernel_rfl,by kernel_rfl,by kernel_rfl,by kernel_rfl,by kernel_rfl,by kernel_rfl,by kernel_rfl,by kernel_rfl,by kernel_rfl,by kernel_rfl,by kernel_rfl,by kernel_rfl,by kernel_rfl,by kernel_rfl,by kernel_rfl,by kernel_rfl,by kernel_rfl,by kernel_rfl,by kernel_rfl,by kernel_rfl,by kernel_rfl,by kernel_rfl,by kernel_rfl,by kernel_rfl,by kernel_rfl,by kernel_rfl,by kernel_rfl,by kernel_rfl,by kernel_rfl,by kernel_rfl,by kernel_rfl,by kernel_rfl,by kernel_rfl,by kernel_rfl,by kernel_rfl,by kernel_rfl,by kernel_rfl,by kernel_rfl,by kernel_rfl,by kernel_rfl,by kernel_rfl,by kernel_rfl,by kernel_rfl,by kernel_rfl,by kernel_rfl,by kernel_rfl,by kernel_rfl,by kernel_rfl,by kernel_rfl,by kernel_rfl,by kernel_rfl,by kernel_rfl,by kernel_rfl,by kernel_rfl,by kernel_rfl,by kernel_rfl,by kernel_rfl,by kernel_rfl,by kernel_rfl,by kernel_rfl,by kernel_rfl,by kernel_rfl,by kernel_rfl,by kernel_rfl,by kernel_rfl,by kernel_rfl,by kernel_rfl,by kernel_rfl,by kernel_rfl,by kernel_rfl,by kernel_rfl,by kernel_rfl,by kernel_rfl,by kernel_rfl,by kernel_rfl,by kernel_rfl,by kernel_rfl,by kernel_rfl,by kernel_rfl,by kernel_rfl,by kernel_rfl,by kernel_rfl,by kernel_rfl,by kernel_rfl,by kernel_rfl,by kernel_rfl,by kernel_rfl,by kernel_rfl,by kernel_rfl,by kernel_rfl,by kernel_rfl,by kernel_rfl,by kernel_rfl,by kernel_rfl,by kernel_rfl,by kernel_rfl,by kernel_rfl,by kernel_rfl,by kernel_rfl,by kernel_rfl,by kernel_rfl,by kernel_rfl,by kernel_rfl,by kernel_rfl,by kernel_rfl,by kernel_rfl,by kernel_rfl,by kernel_rfl,by kernel_rfl,by kernel_rfl,by kernel_rfl,by kernel_rfl,by kernel_rfl,by kernel_rfl,by kernel_rfl,by kernel_rfl,by kernel_rfl,by kernel_rfl,by kernel_rfl,by kernel_rfl,by kernel_rfl,by kernel_rfl,by kernel_rfl,by kernel_rfl,by kernel_rfl,by kernel_rfl,by kernel_rfl,by kernel_rfl,by kernel_rfl,by kernel_rfl,by kernel_rfl,by kernel_rfl,by kernel_rfl,by kernel_rfl,by kernel_rfl,by kernel_rfl,by kernel_rfl,by kernel_rfl,by kernel_rfl,by kernel_rfl,by kernel_rfl,by kernel_rfl,by kernel_rfl,by kernel_rfl,by kernel_rfl,by kernel_rfl,by kernel_rfl,by kernel_rfl,by kernel_rfl,by kernel_rfl,by kernel_rfl,by kernel_rfl,by kernel_rfl,by kernel_rfl,by kernel_rfl,by kernel_rfl,by kernel_rfl,by kernel_rfl,by kernel_rfl,by kernel_rfl,by kernel_rfl,by kernel_rfl,by kernel_rfl,by kernel_rfl,by kernel_rfl,by kernel_rfl,by kernel_rfl,by kernel_rfl,by kernel_rfl,by kernel_rfl,by kernel_rfl,by kernel_rfl,by kernel_rfl,by kernel_rfl,by kernel_rfl,by kernel_rfl,by kernel_rfl,by kernel_rfl,by kernel_rfl,by kernel_rfl,by kernel_rfl,by kernel_rfl,by kernel_rfl,by kernel_rfl,by kernel_rfl,by kernel_rfl,by kernel_rfl,by kernel_rfl,by kernel_rfl,by kernel_rfl,by kernel_rfl,by kernel_rfl,by kernel_rfl,by kernel_rfl,by kernel_rfl,by kernel_rfl,by kernel_rfl,by kernel_rfl,by kernel_rfl,by kernel_rfl,by kernel_rfl,by kernel_rfl,by kernel_rfl,by kernel_rfl,by kernel_rfl,by kernel_rfl,by kernel_rfl,by kernel_rfl,by kernel_rfl,by kernel_rfl,by kernel_rfl,by kernel_rfl,by kernel_rfl,by kernel_rfl,by kernel_rfl,by kernel_rfl,by kernel_rfl,by kernel_rfl,by kernel_rfl,by kernel_rfl,by kernel_rfl,by kernel_rfl,by kernel_rfl,by kernel_rfl,by kernel_rfl,by kernel_rfl,by kernel_rfl,by kernel_rfl,by kernel_rfl,by kernel_rfl,by kernel_rfl,by kernel_rfl,by kernel_rfl,by kernel_rfl,by kernel_rfl,by kernel_rfl,by kernel_rfl,by kernel_rfl,by kernel_rfl,by kernel_rfl,by kernel_rfl,by kernel_rfl,by kernel_rfl,by kernel_rfl,by kernel_rfl,by kernel_rfl,by kernel_rfl,by kernel_rfl,by kernel_rfl,by kernel_rfl,by kernel_rfl,by kernel_rfl,by kernel_rfl,by kernel_rfl,by kernel_rfl,by kernel_rfl,by kernel_rfl,by kernel_rfl,by kernel_rfl,by kernel_rfl,by kernel_rfl,by kernel_rfl,by kernel_rfl,by kernel_rfl,by kernel_rfl,by kernel_rfl,by kernel_rfl,by kernel_rfl,by kernel_rfl,by kernel_rfl,by kernel_rfl,by kernel_rfl,by kernel_rfl,by kernel_rfl,by kernel_rfl,by kernel_rfl,by kernel_rfl,by kernel_rfl,by kernel_rfl,by kernel_rfl,by kernel_rfl,by kernel_rfl,by kernel_rfl,by kernel_rfl,by kernel_rfl,by kernel_rfl,by kernel_rfl,by kernel_rfl,by kernel_rfl,by kernel_rfl,by kernel_rfl,by kernel_rfl,by kernel_rfl,by kernel_rfl,by kernel_rfl,by kernel_rfl,by kernel_rfl,by kernel_rfl,by kernel_rfl,by kernel_rfl,by kernel_rfl,by kernel_rfl,by kernel_rfl⟩
end Go.Proofs.YtcjffhadclngmaaGreat
namespace Go.Proofs.YtcjffhadclngmaaGreat
def val:List Int→Int
 | []=>0
 | d :: r=>d+10000*val r
def digN:Nat→Nat→List Int
 | 0,_=>[]
 | f+1,n=>if n=0 then [] else ((n % 10000:Nat):Int) :: digN f (n / 10000)
def dig (n:Nat):List Int:=digN n n
def okD (l:List Int):Prop:=∀ d ∈ l,0≤d∧d<10000
theorem Ro:∀ {f g n:Nat},n≤f→n≤g→digN f n=digN g n
 | 0,0,_,_,_=>rfl
 | 0,g+1,n,h,_=>by
   have:n=0:=by omega
   subst this; simp [digN]
 | f+1,0,n,_,h=>by
   have:n=0:=by omega
   subst this; simp [digN]
 | f+1,g+1,n,h1,h2=>by
  simp only [digN]
  by_cases h:n=0
  ·simp [h]
  ·rw [if_neg h,if_neg h,Ro (f:=f) (g:=g) (n:=n / 10000) (by omega) (by omega)]
theorem Gu:dig 0=[]:=rfl
theorem Hn {n:Nat} (h:n≠0):dig n=((n % 10000:Nat):Int) :: dig (n / 10000):=by
 unfold dig
 cases n with
 | zero=>exact absurd rfl h
 | succ n =>
  rw [digN,if_neg h]
  congr 1
  exact Ro (by omega) (Nat.le_refl _)
theorem Di (n:Nat):val (dig n)=n:=by
 induction n using Nat.strongRecOn with
 | _ n ih =>
  by_cases h:n=0
  ·subst h; rfl
  ·rw [Hn h,val,ih (n / 10000) (by omega)]; omega
theorem Dy (n:Nat):okD (dig n):=by
 induction n using Nat.strongRecOn with
 | _ n ih =>
  by_cases h:n=0
  ·subst h; intro d hd; simp [Gu] at hd
  ·rw [Hn h]
   intro d hd
   rcases List.mem_cons.1 hd with rfl|hd
   ·omega
   ·exact ih (n / 10000) (by omega) d hd
theorem Uu {d:Int} (h0:0<d) (h1:d<10000):dig d.toNat=[d]:=by
 rw [Hn (by omega)]
 have e1:d.toNat % 10000=d.toNat:=Nat.mod_eq_of_lt (by omega)
 have e2:d.toNat / 10000=0:=by omega
 rw [e1,e2,Gu]
 congr 1; omega
theorem E7:∀ {l:List Int},okD l→0≤val l
 | [],_=>by simp [val]
 | d :: r,h=>by
  have h1:=h d (by simp)
  have h2:=E7 (l:=r) fun x hx=>h x (by simp [hx])
  simp only [val]; omega
def D0:List Int→List Int
 | []=>[]
 | d :: r=>if D0 r=[]∧d=0 then [] else d :: D0 r
theorem K2 {n:Nat} : dig n=[]↔n=0:=by
 constructor
 ·intro h
  by_cases h0:n=0
  ·exact h0
  ·rw [Hn h0] at h; simp at h
 ·rintro rfl; rfl
theorem Ef:∀ {l:List Int},okD l→D0 l=dig (val l).toNat
 | [],_=>rfl
 | d :: r,h=>by
  have h1:=h d (by simp)
  have hr:okD r:=fun x hx=>h x (by simp [hx])
  have h2:=E7 hr
  rw [D0,Ef hr]
  simp only [val]
  by_cases hv:val r=0
  ·by_cases hd:d=0
   ·rw [if_pos ⟨by rw [hv]; rfl,hd⟩,hv,hd]; rfl
   ·rw [if_neg (fun h=>hd h.2),hv]
    have e:(d+10000*0).toNat=d.toNat:=by omega
    rw [e,Uu (by omega) h1.2]; rfl
  ·have hn:¬ (val r).toNat=0:=by omega
   rw [if_neg (fun h=>hn (K2.1 h.1)),Hn (n:=(d+10000*val r).toNat) (by omega)]
   have e1:(d+10000*val r).toNat / 10000=(val r).toNat:=by omega
   have e2:(((d+10000*val r).toNat % 10000:Nat):Int)=d:=by omega
   rw [e1,e2]
theorem D4 {n k:Nat} : (dig n).length≤k↔n<10000 ^ k:=by
 induction k generalizing n with
 | zero =>
  rw [Nat.pow_zero]
  constructor
  ·intro h
   have:dig n=[]:=List.eq_nil_of_length_eq_zero (by omega)
   have:=K2.1 this; omega
  ·intro h
   have:n=0:=by omega
   subst this; simp [Gu]
 | succ k ih =>
  by_cases h:n=0
  ·subst h; simp [Gu,Nat.pow_pos]
  ·rw [Hn h,List.length_cons,Nat.add_le_add_iff_right,ih,Nat.pow_succ,Nat.div_lt_iff_lt_mul (by omega)]
theorem Aer {a b:Nat} (h:dig a=dig b):a=b:=by
 have h1:=Di a
 have h2:=Di b
 rw [h] at h1; omega
theorem Gm (l r:List Int):val (l++r)=val l+10000 ^ l.length*val r:=by
 induction l with
 | nil=>simp [val]
 | cons d l ih=>simp only [List.cons_append,val,ih,List.length_cons,Int.pow_succ]; rw [Int.mul_add,Int.mul_comm (10000 ^ l.length) 10000,Int.mul_assoc]; omega
theorem G2 (n:Nat):val (List.replicate n 0)=0:=by
 induction n with
 | zero=>rfl
 | succ n ih=>rw [List.replicate_succ,val,ih]; rfl
theorem Je {l:List Int} {i:Nat} {x v:Int} (h:nth l i=some x):val (l.set i v)=val l+(v - x)*10000 ^ i:=by
 induction l generalizing i with
 | nil=>simp [nth] at h
 | cons d l ih =>
  cases i with
  | zero=>simp only [nth,Option.some.injEq] at h; subst h; simp only [List.set_cons_zero,val,Int.pow_zero]; omega
  | succ i =>
   simp only [nth] at h
   simp only [List.set_cons_succ,val,ih h,Int.pow_succ]
   rw [Int.mul_add,Int.mul_comm (10000 ^ i) 10000,← Int.mul_assoc,← Int.mul_assoc,Int.mul_comm 10000 (v - x)]; omega
theorem Mv (l:List Int):(D0 l).length≤l.length:=by
 induction l with
 | nil=>simp [D0]
 | cons d l ih=>rw [D0]; split <;> simp; exact ih
theorem Lr:∀ (n:Nat) (l:List Int),n≤l.length→(∀ j,n≤j→∀ x,nth l j=some x→x=0)→D0 l=D0 (l.take n)
 | 0,[],_,_=>rfl
 | 0,d :: l,_,h=>by
  have hd:=h 0 (Nat.le_refl _) d rfl
  have:=Lr 0 l (Nat.zero_le _) fun j _ x hx=>h (j+1) (Nat.zero_le _) x hx
  rw [D0,this,hd]; simp [D0]
 | n+1,[],h,_=>by simp at h
 | n+1,d :: l,hn,h=>by
  have:=Lr n l (by simpa using hn) fun j hj x hx=>h (j+1) (by omega) x hx
  rw [List.take_succ_cons,D0,D0,this]
theorem Qo:∀ (l:List Int) (n:Nat) (x:Int),nth l n=some x→l.length=n+1→x≠0→D0 l=l
 | [],_,_,h,_,_=>by simp [nth] at h
 | d :: l,0,x,h,hl,hx=>by
  have:l=[]:=List.eq_nil_of_length_eq_zero (by simpa using hl)
  subst this
  simp only [nth,Option.some.injEq] at h; subst h
  simp [D0,hx]
 | d :: l,n+1,x,h,hl,hx=>by
  have ih:=Qo l n x h (by simpa using hl) hx
  have hne:l≠[]:=by rintro rfl; simp [nth] at h
  rw [D0,ih,if_neg (fun h=>hne h.1)]
/- which numbers are valid,and what they stand for -/
def Vl (l:List Int):Bool:=match nth l (l.length - 1) with|some x=>x == 0|none=>false
def allD:List Int→Bool
 | []=>true
 | d :: r=>if (decide (d<0) || decide (d ≥ 10000))=true then false else allD r
theorem Zw {l:List Int} : allD l=true↔okD l:=by
 induction l with
 | nil=>simp [allD,okD]
 | cons d l ih =>
  rw [allD]
  by_cases h:d<0∨d ≥ 10000
  ·have:(decide (d<0) || decide (d ≥ 10000))=true:=by simpa using h
   simp only [this,if_true,Bool.false_eq_true,false_iff]
   intro hk
   have:=hk d (by simp); omega
  ·have:(decide (d<0) || decide (d ≥ 10000))=false:=by simp; omega
   simp only [this,Bool.false_eq_true,if_false,ih]
   constructor
   ·intro hk x hx
    rcases List.mem_cons.1 hx with rfl|hx
    ·omega
    ·exact hk x hx
   ·exact fun hk x hx=>hk x (by simp [hx])
def Gl (neg:Bool) (l:List Int):Bool:=if (decide (200<l.length) || (decide (l=[]) && neg) || Vl l)=true then false else allD l
def V (neg:Bool) (l:List Int):Int:=if Gl neg l=true then (if neg=true then -(val l) else val l) else 0
theorem Na {neg:Bool} {l:List Int} (h:Gl neg l=true):l=dig (val l).toNat∧okD l∧l.length≤200:=by
 unfold Gl at h
 split at h
 ·simp at h
 ·rename_i hh
  have hk:=Zw.1 h
  simp only [Bool.or_eq_true,decide_eq_true_eq,not_or] at hh
  refine ⟨?_,hk,by omega⟩
  rw [← Ef hk]
  by_cases hl:l=[]
  ·subst hl; rfl
  ·have hpos:0<l.length:=List.length_pos_iff.2 hl
   obtain ⟨x,hx⟩:=A6 (l:=l) (i:=l.length - 1) (by omega)
   have hz:=hh.2
   unfold Vl at hz
   rw [hx] at hz
   exact (Qo l (l.length - 1) x hx (by omega) (by simpa using hz)).symm
theorem Ag5 (neg:Bool) (l:List Int):dig (V neg l).natAbs=if Gl neg l=true then l else []:=by
 unfold V
 by_cases h:Gl neg l=true
 ·obtain ⟨h1,h2,-⟩:=Na h
  have h3:=E7 h2
  rw [if_pos h,if_pos h]
  conv=>rhs; rw [h1]
  congr 1
  split <;> omega
 ·rw [if_neg h,if_neg h]; rfl
theorem Agy (neg:Bool) (l:List Int):(dig (V neg l).natAbs).length≤200:=by
 rw [Ag5]
 split
 ·rename_i h; exact (Na h).2.2
 ·simp
theorem Wi (z:Int) (h:(dig z.natAbs).length≤200):Gl (decide (z<0)) (dig z.natAbs)=true:=by
 unfold Gl
 have hk:=Dy z.natAbs
 rw [if_neg]
 ·exact Zw.2 hk
 ·simp only [Bool.or_eq_true,decide_eq_true_eq,Bool.and_eq_true,not_or]
  refine ⟨⟨by omega,fun h=>?_⟩,fun hz=>?_⟩
  ·have:=K2.1 h.1; omega
  ·unfold Vl at hz
   split at hz
   ·rename_i x hx
    have hx0:x=0:=by simpa using hz
    subst hx0
    have ht:=Ef hk
    rw [Di] at ht
    have e:((z.natAbs:Int)).toNat=z.natAbs:=by omega
    rw [e] at ht
    have hl:=B5 hx
    have h1:=Lr ((dig z.natAbs).length - 1) (dig z.natAbs) (by omega) (fun j hj y hy=>by
     have:j=(dig z.natAbs).length - 1:=by have:=B5 hy; omega
     subst this
     rw [hx] at hy; simpa using hy.symm)
    have h2:=Mv ((dig z.natAbs).take ((dig z.natAbs).length - 1))
    rw [← h1,ht] at h2
    simp at h2; omega
   ·simp at hz
theorem V_of (z:Int) (h:(dig z.natAbs).length≤200):V (decide (z<0)) (dig z.natAbs)=z:=by
 unfold V
 rw [if_pos (Wi z h),Di]
 by_cases hz:z<0 <;> simp [hz] <;> omega
end Go.Proofs.YtcjffhadclngmaaGreat
namespace Go.Proofs.YtcjffhadclngmaaGreat
open Go
def digC (x:Int):List AV:=[.prim (.int .i64 x)]
def digA (l:List Int):AV:=.frz (l.map digC) .unk
def bigA (neg:Bool) (l:List Int):AV:=.agg [.prim (.bool neg),digA l]
def zA (z:Int):AV:=bigA (decide (z<0)) (dig z.natAbs)
def ownF:Option Tmp→TypeId→Bool
 | some 92,54|some 105,54|some 31,54|some 57,54|some 88,54|some 96,54=>true
 | some 32,72|some 240,72=>true
 | some 45,37|some 255,37=>true
 | some 240,137=>true
 | _,_=>false
def lkF0 (f:FuncId):Bool:=f == 157 || f == 158 || f == 159 || f == 160 || f == 161 || f == 162 || f == 163 || f == 164 ||
 f == 110 || f == 115 || f == 37
def anF0 (f:FuncId):Bool:=f == 60 || f == 39 || f == 63 || f == 40 || f == 36 ||
 f == 112 || f == 117
def mvF0 (f:FuncId):Bool:=f == 60 || f == 39 || f == 63 || f == 40 || f == 36 || f == 32 ||
 f == 81 || f == 87
instance:Globs:=⟨[],fun f=>f == 104 || f == 103 || f == 175,true,ownF,lkF0,anF0,true,false⟩
end Go.Proofs.YtcjffhadclngmaaGreat
namespace Go.Proofs.YtcjffhadclngmaaGreat
open Go
variable {P:Program}
@[reducible] def Ext.quiet (E:Ext P):Ext P:={ on:=E.on,mv:=E.mv,call:=fun _ _ _ _ _=>none }
theorem Gw [Globs] (E:Ext P) {call:Dh} {ok:St→List Oper→Bool} {n:Nat} : ∀ (c:Code) (st:St),@evC _ P (Ext.quiet E) call ok n c st=@evC _ P E call ok n c st
 | .skip,_=>by simp only [evC]
 | .region _ ops draw,st=>by simp only [evC]; rfl
 | .seq a b,st=>by
  simp only [evC,Gw E a]
  split <;> first|exact Gw E b _|rfl
 | .cond c a b,st=>by simp only [evC,Gw E a,Gw E b]
 | .block _ c,st=>by simp only [evC,Gw E c]
 | .loop c,st=>by
  simp only [evC]
  congr 1
  funext s
  exact Gw E c s
 | .exit _,_=>by simp only [evC]
 | .ret,_=>by simp only [evC]
 | .scope c,st=>by simp only [evC]; exact Gw E c st
 | .label _,_=>by simp only [evC]
 | .goto _,_=>by simp only [evC]
 | .rangeFunc _ _ _ _,_=>by simp only [evC]
 | .refuse _,_=>by simp only [evC]
theorem Rr [Globs] (E:Ext P) {ok:St→List Oper→Bool} : ∀ k,CLe (@evF _ P (Ext.quiet E) ok k) (@evF _ P E ok k)
 | 0=>by intro f args S tk n r he; simp [evF] at he
 | k+1=>by
  have ih:=Rr E (ok:=ok) k
  intro f args S tk n r he
  simp only [evF] at he ⊢
  split at he
  ·simp at he
  rename_i hon
  rw [if_neg (show ¬ @Ext.on P E f=true from hon)]
  split at he
  ·rename_i fn hf
   split at he
   ·rename_i c hb
    split at he
    ·simp at he
    ·rename_i hname
     rw [if_neg hname]
     have out:∀ {st0:St} {r0:AV × St},outA P fn (@evC _ P (Ext.quiet E) (@evF _ P (Ext.quiet E) ok k) ok k c st0)=some r0→outA P fn (@evC _ P E (@evF _ P E ok k) ok k c st0)=some r0:=by
      intro st0 r0 h
      rw [Gw E] at h
      exact J0 (fun z hz=>Dd ih (Nat.le_refl _) c _ z hz) h
     split at he
     ·rename_i hmv
      rw [if_pos (show @Ext.mv P E f=true from hmv)]
      split at he
      ·rename_i r' s1 ho
       rw [out ho]
       exact he
      ·simp at he
     rename_i hmv
     rw [if_neg (show ¬ @Ext.mv P E f=true from hmv)]
     split at he
     ·rename_i hp
      rw [if_pos hp]
      have one:∀ {xs0:List AV} {r0:AV},@runP _ P (Ext.quiet E) ok (@evF _ P (Ext.quiet E) ok k) k fn c xs0=some r0→@runP _ P E ok (@evF _ P E ok k) k fn c xs0=some r0:=by
       intro xs0 r0 hrun
       unfold runP at hrun ⊢
       split at hrun
       ·rename_i r' s1 ho
        rw [out ho]
        exact hrun
       ·simp at hrun
      split at he
      ·rename_i r' ho
       have:(if Hm c=true then runN (@runP _ P E ok (@evF _ P E ok k) k fn c) (args.map w2) else @runP _ P E ok (@evF _ P E ok k) k fn c (args.map w2))=some r':=by
        split at ho
        ·rename_i hn
         rw [if_pos hn]
         unfold runN at ho ⊢
         split at ho
         ·split at ho
          ·rename_i q1 q2
           rw [one q1,one q2]; exact ho
          ·simp at ho
         ·exact one ho
        ·rename_i hn
         rw [if_neg hn]
         exact one ho
       rw [this]; exact he
      ·simp at he
     ·rename_i hp
      rw [if_neg hp]
      split at he
      ·rename_i r' s1 ho
       rw [out ho]
       exact he
      ·simp at he
   ·simp at he
  ·simp at he
theorem told [Globs] {E:Ext P} {f:FuncId} {args:List AV} {S:List Ent} {tk:List Nat} {n:Nat} {r:AV × List Ent × List Nat × Nat} (h:@cL _ P (Ext.quiet E) f args S tk n=some r):@cL _ P E f args S tk n=some r:=by
 obtain ⟨k,hk⟩:=(@Hw P _ (Ext.quiet E) _ _ _ _ _ _).1 h
 exact (@Hw P _ E _ _ _ _ _ _).2 ⟨k,Rr E k _ _ _ _ _ _ hk⟩
theorem Abm [Globs] (E:Ext P):@Xv _ P (Ext.quiet E):=by
 letI:=Ext.quiet E
 refine ⟨fun f args S tk n r S' tk' n' h=>?_,fun M f args S tk n r S' tk' n' h=>?_⟩
 ·unfold extC at h; split at h <;> simp at h
 ·unfold Ei at h; split at h
  ·unfold extC at h; split at h <;> simp at h
  ·simp at h
end Go.Proofs.YtcjffhadclngmaaGreat
namespace Go.Proofs.YtcjffhadclngmaaGreat
open Go
def Mi:List (List AV)→Option (List Int)
 | []=>some []
 | [.prim (.int .i64 x)] :: r=>(Mi r).map (x :: ·)
 | _=>none
theorem L3:∀ l:List Int,Mi (l.map digC)=some l
 | []=>rfl
 | x :: l=>by simp only [List.map_cons,digC,Mi,L3 l,Option.map_some]
def strC (s:ByteArray):List AV:=[.prim (.string s)]
def A8 (l:List ByteArray):AV:=.frz (l.map strC) .unk
def M3:List (List AV)→Option (List ByteArray)
 | []=>some []
 | [.prim (.string x)] :: r=>(M3 r).map (x :: ·)
 | _=>none
theorem Pm:∀ l:List ByteArray,M3 (l.map strC)=some l
 | []=>rfl
 | x :: l=>by simp only [List.map_cons,strC,M3,Pm l,Option.map_some]
theorem Nw:∀ {es:List (List AV)} {l:List ByteArray},M3 es=some l→es=l.map strC
 | [],l,h=>by simp only [M3,Option.some.injEq] at h; subst h; rfl
 | e :: es,l,h=>by
  unfold M3 at h
  split at h
  ·rename_i he; simp at he
  ·rename_i x r he
   simp only [List.cons.injEq] at he
   obtain ⟨rfl,rfl⟩:=he
   simp only [Option.map_eq_some_iff] at h
   obtain ⟨l',h1,rfl⟩:=h
   rw [Nw h1]; rfl
  ·simp at h
def putS (l:List ByteArray) (s:ByteArray):List ByteArray :=
 match l with
 | []=>[s]
 | x :: r=>if sLt x s=true then x :: putS r s else if sEq x s=true then x :: r else s :: x :: r
def uniS (l:List ByteArray):List ByteArray:=l.foldl putS []
def Nk:Cap→Bool
 | .nilc=>true
 | _=>false
def quoF (l r:List Int):Option AV :=
 if l=dig (val l).toNat∧r=dig (val r).toNat∧r≠[]∧l.length≤90000∧r.length≤90000 then
  some (.tup [digA (dig ((val l).toNat / (val r).toNat)),digA (dig ((val l).toNat % (val r).toNat))]) else none
def quoC (args:List AV) (S:List Ent) (tk:List Nat) (n:Nat):Option (AV × List Ent × List Nat × Nat):=match args with
  | [.frz es _,.frz ys _]=>match Mi es,Mi ys with
   | some l,some r=>match quoF l r with
    | some v=>some (v,S,tk,n)
    | none=>none
   | _,_=>none
  | _=>none
def uniC (args:List AV) (S:List Ent) (tk:List Nat) (n:Nat):Option (AV × List Ent × List Nat × Nat):=match args with
  | [.frz es c,.frz [] .nilc]=>match M3 es with
   | some l=>if (decide (l.length≤1000000) && (!l.isEmpty || Nk c))=true then some (A8 (uniS l),S,tk,n) else none
   | none=>none
  | _=>none
@[reducible] noncomputable def E1:Ext Tryz.prog where
 on:=fun f=>f == 55 || f == 169
 mv:=mvF0
 call:=fun f args S tk n=>if f == 55 then uniC args S tk n else if f == 169 then quoC args S tk n else none
@[reducible] noncomputable instance E0:Ext Tryz.prog:=Ext.quiet E1
instance:Xv Tryz.prog:=Abm E1
theorem Ad (f:FuncId) (h:mvF0 f=false):Ext.mv Tryz.prog f=false:=h
end Go.Proofs.YtcjffhadclngmaaGreat
namespace Go.Proofs.YtcjffhadclngmaaGreat
open Go
theorem Acp (s:ByteArray):∀ (n i:Nat) (r:List UInt8),s.size - i=n→ByteArray.toList.loop s i r=r.reverse++s.data.toList.drop i:=by
 intro n
 induction n with
 | zero =>
  intro i r h
  rw [ByteArray.toList.loop,if_neg (by omega),List.drop_eq_nil_of_le (by simp; omega),List.append_nil]
 | succ n ih =>
  intro i r h
  have hi:i<s.data.size:=by simp; omega
  rw [ByteArray.toList.loop,if_pos (by omega),ih (i+1) _ (by omega),List.reverse_cons,List.append_assoc]
  congr 1
  have e:s.data.toList.drop i=s.data[i] :: s.data.toList.drop (i+1):=by
   rw [← Array.getElem_toList hi,List.getElem_cons_drop]
  rw [e,List.singleton_append]
  congr 1
  show s.data[i]! = _
  rw [getElem!_pos s.data i hi]
def nm (s:ByteArray):List UInt8:=s.data.toList
theorem Qz (s:ByteArray):s.toList=nm s:=by rw [ByteArray.toList,Acp s _ 0 [] rfl]; simp [nm]
theorem Aaq {a b:ByteArray} (h:nm a=nm b):a=b:=by
 apply ByteArray.ext; exact Array.ext' h
theorem L8:∀ (x y:List UInt8),Op.bytesLess x y=decide (x<y)
 | [],[]=>by simp [Op.bytesLess]
 | a :: x,[]=>by simp [Op.bytesLess]
 | [],b :: y=>by simp [Op.bytesLess]
 | a :: x,b :: y=>by
  rw [Op.bytesLess,L8 x y]
  by_cases h1:a<b
  ·simp [h1,List.cons_lt_cons_iff]
  ·by_cases h2:a=b
   ·subst h2; simp [List.cons_lt_cons_iff]
   ·simp [h1,h2,List.cons_lt_cons_iff]
theorem Zd (a b:ByteArray):sLt a b=decide (nm a<nm b):=by
 unfold sLt; rw [Qz,Qz,L8]
theorem P8 (a b:ByteArray):sEq a b=decide (a=b):=by
 unfold sEq; rw [Qz,Qz]
 by_cases h:a=b
 ·subst h; simp
 ·have:nm a≠nm b:=fun h'=>h (Aaq h')
  simp [h,this]
theorem Rj {a b c:List UInt8} (h1:a<b) (h2:b<c):a<c:=List.lt_trans h1 h2
theorem L1 (a:List UInt8):¬ a<a:=List.lt_irrefl a
theorem Afu (a b:ByteArray):nm a<nm b∨a=b∨nm b<nm a:=by
 by_cases h1:nm a<nm b
 ·exact .inl h1
 ·by_cases h2:nm b<nm a
  ·exact .inr (.inr h2)
  ·exact .inr (.inl (Aaq (List.le_antisymm (List.not_lt.1 h2) (List.not_lt.1 h1))))
def Inc (l:List ByteArray):Prop:=l.Pairwise fun a b=>nm a<nm b
theorem U6 (s x:ByteArray):∀ l:List ByteArray,x ∈ putS l s↔x=s∨x ∈ l
 | []=>by simp [putS]
 | y :: r=>by
  rw [putS]
  split
  ·rw [List.mem_cons,U6 s x r,List.mem_cons]
   constructor
   ·rintro (h|h|h) <;> simp [h]
   ·rintro (h|h|h) <;> simp [h]
  ·split
   ·rename_i h
    rw [P8] at h
    have:y=s:=by simpa using h
    subst this
    simp
   ·simp [or_comm,or_left_comm]
theorem Aa0 (s:ByteArray):∀ {l:List ByteArray},Inc l→Inc (putS l s)
 | [],_=>by simp [putS,Inc]
 | y :: r,h=>by
  have h0:=List.pairwise_cons.1 h
  rw [putS]
  split
  ·rename_i h1
   rw [Zd] at h1
   refine List.pairwise_cons.2 ⟨fun x hx=>?_,Aa0 s h0.2⟩
   rcases (U6 s x r).1 hx with rfl|hx
   ·simpa using h1
   ·exact h0.1 x hx
  ·rename_i h1
   rw [Zd] at h1
   split
   ·exact h
   ·rename_i h2
    rw [P8] at h2
    have h3:nm s<nm y:=by
     rcases Afu s y with h|h|h
     ·exact h
     ·exact absurd (by simpa using h.symm) h2
     ·exact absurd (by simpa using h) h1
    refine List.pairwise_cons.2 ⟨fun x hx=>?_,h⟩
    rcases List.mem_cons.1 hx with rfl|hx
    ·exact h3
    ·exact Rj h3 (h0.1 x hx)
theorem Us (s:ByteArray):∀ l:List ByteArray,(putS l s).length≤l.length+1
 | []=>by simp [putS]
 | y :: r=>by
  rw [putS]
  have:=Us s r
  split
  ·simp; exact this
  ·split <;> simp
theorem V0 (l:List ByteArray) (s:ByteArray):uniS (l++[s])=putS (uniS l) s:=by simp [uniS,List.foldl_append]
theorem K8 (l:List ByteArray):Inc (uniS l)∧(∀ x,x ∈ uniS l↔x ∈ l)∧(uniS l).length≤l.length:=by
 have key:∀ (l acc:List ByteArray),Inc acc→Inc (l.foldl putS acc)∧(∀ x,x ∈ l.foldl putS acc↔x ∈ acc∨x ∈ l)∧(l.foldl putS acc).length≤acc.length+l.length:=by
  intro l
  induction l with
  | nil=>intro acc h; exact ⟨h,fun x=>by simp,by simp⟩
  | cons s l ih =>
   intro acc h
   obtain ⟨h1,h2,h3⟩:=ih (putS acc s) (Aa0 s h)
   refine ⟨h1,fun x=>?_,?_⟩
   ·rw [List.foldl_cons,h2 x,U6,List.mem_cons]
    constructor
    ·rintro ((h|h)|h) <;> simp [h]
    ·rintro (h|h|h) <;> simp [h]
   ·have:=Us s acc
    simp only [List.foldl_cons,List.length_cons]; omega
 have:=key l [] (by simp [Inc])
 exact ⟨this.1,fun x=>by simpa [uniS] using this.2.1 x,by simpa [uniS] using this.2.2⟩
theorem Wd {s:ByteArray} : ∀ {l:List ByteArray},(∀ x ∈ l,nm x<nm s)→putS l s=l++[s]
 | [],_=>rfl
 | y :: r,h=>by
  rw [putS,if_pos (by rw [Zd]; simpa using h y (by simp)),Wd fun x hx=>h x (by simp [hx])]; rfl
theorem Adt:∀ {l r:List ByteArray},Inc l→Inc r→(∀ x,x ∈ l↔x ∈ r)→l=r
 | [],[],_,_,_=>rfl
 | [],y :: r,_,_,h=>by have:=(h y).2 (by simp); simp at this
 | x :: l,[],_,_,h=>by have:=(h x).1 (by simp); simp at this
 | x :: l,y :: r,h1,h2,h=>by
  have a1:=List.pairwise_cons.1 h1
  have a2:=List.pairwise_cons.1 h2
  have hxy:x=y:=by
   have m1:=(h x).1 (by simp)
   have m2:=(h y).2 (by simp)
   rcases List.mem_cons.1 m1 with e|m1
   ·exact e
   ·rcases List.mem_cons.1 m2 with e|m2
    ·exact e.symm
    ·exact absurd (Rj (a1.1 y m2) (a2.1 x m1)) (L1 _)
  subst hxy
  congr 1
  refine Adt a1.2 a2.2 fun z=>?_
  have hz:=h z
  simp only [List.mem_cons] at hz
  constructor
  ·intro hm
   rcases hz.1 (.inr hm) with e|hm'
   ·subst e; exact absurd (a1.1 z hm) (L1 _)
   ·exact hm'
  ·intro hm
   rcases hz.2 (.inr hm) with e|hm'
   ·subst e; exact absurd (a2.1 z hm) (L1 _)
   ·exact hm'
end Go.Proofs.YtcjffhadclngmaaGreat
namespace Go.Proofs.YtcjffhadclngmaaGreat
def inB (n:Int):Bool:=decide (-1000000000000≤n∧n≤1000000000000)
theorem drop_nil {α:Type} {l:List α} {n:Nat} (h:l.length≤n):l.drop n=[]:=List.drop_eq_nil_of_le h
end Go.Proofs.YtcjffhadclngmaaGreat
namespace Go.Proofs.YtcjffhadclngmaaGreat
open Go
def i64 (n:Int):Prop:=-9223372036854775808≤n∧n≤9223372036854775807
theorem A0 {n:Int} (h:i64 n):IntKind.i64.wrap n=n:=Go.IntWalk.i64_in n h
theorem D7 {i:Nat} (h:i≤1048576):IntKind.i64.wrap ((i:Int)+1)=((i+1:Nat):Int):=by rw [A0 (by unfold i64; omega)]; omega
theorem Tn {j:Nat} (h:j≤1048576):IntKind.i64.wrap (((j+1:Nat):Int) - 1)=(j:Int):=by rw [A0 (by unfold i64; omega)]; omega
theorem E2 {α β:Type} (f:α→β):∀ (l:List α) (i:Nat),nth (l.map f) i=(nth l i).map f
 | [],_=>rfl
 | _ :: _,0=>rfl
 | _ :: l,i+1=>E2 f l i
theorem Bw {α:Type} : ∀ {l:List α} {i:Nat} {x:α},nth l i=some x→l.drop i=x :: l.drop (i+1)
 | y :: l,0,x,h=>by simp only [nth,Option.some.injEq] at h; subst h; rfl
 | _ :: l,i+1,x,h=>Bw (l:=l) (i:=i) h
 | [],_,_,h=>by simp [nth] at h
theorem Ly (l:List Int):D2 1 (l.map digC)=true:=Hv (f:=digC) (sz:=1) (fun _=>rfl) l
theorem Jp {l:List Int} {i:Nat} {x:Int} (h:nth l i=some x):nth (l.map digC) i=some [.prim (.int .i64 x)]:=by rw [E2,h]; rfl
theorem Vf {l:List Int} (h:l≠[]):((l.length:Int) == 0)=false:=by
 have:l.length≠0:=fun h'=>h (List.length_eq_zero_iff.1 h')
 simp; omega
theorem Vj {l:List Int} (h:l≠[]):decide ((l.length:Int) > 0)=true:=by
 have:l.length≠0:=fun h'=>h (List.length_eq_zero_iff.1 h')
 simp; omega
theorem Ab8 {l:List Int} (h:l≠[]) (hl:l.length≤1000000):IntKind.i64.wrap ((l.length:Int) - 1)=((l.length - 1:Nat):Int):=by
 have:l.length≠0:=fun h'=>h (List.length_eq_zero_iff.1 h')
 rw [A0 (by unfold i64; omega)]; omega
section
variable (S:List Ent) (tk:List Nat) (k:Nat)
theorem Tk (neg:Bool) (l:List Int) (c:Cap) (hlen:l.length≤1000000):cL Tryz.prog 119 [.agg [.bool neg,.frz (l.map digC) c]] S tk k=some (.bool (Gl neg l),S,tk,k):=by
 refine A9 Tryz.func119 rfl rfl (by decide +kernel) (by decide +kernel) Tryz.ntmps119 rfl rfl _ _ _ rfl ?_; rw [Bs]
 by_cases h1:200<l.length
 ·have d1:decide ((l.length:Int) > 200)=true:=by simp; omega
  simp (maxSteps:=1000000) +contextual (disch:=first|with_reducible assumption|exact ⟨rfl⟩|exact ⟨rfl,rfl⟩|exact ⟨rfl,rfl,rfl⟩|(refine _root_.id ?_; kernel_rfl)|omega) only [evs,Ad,nth,put,putT,getT,Ai,Aj,Ab,aUn,outA,resA,mapO,Aq,Ar,w1,w2,w3,bots,cond_true,cond_false,if_true,if_false,ite_true,ite_false,reduceIte,reduceCtorEq,implies_true,Nat.reduceAdd,Nat.reduceSub,AV.int,AV.bool,AV.str,Nat.reduceBEq,Nat.reduceEqDiff,Nat.reduceMul,Nat.reduceLT,Nat.reduceLeDiff,Int.reduceNeg,BEq.rfl,beq_self_eq_true,tabl,cellsOf,fldA,ldA,stA,Ak,Ao,Am,over,Ag,Value.oneCell',idxA,nilA,Aa,Ap,Ah,pure1,pure2,reps,chkA,tys,Tryz.results119,evt,Av,Au,w2,w1,d1]
  all_goals simp [Gl,h1]
 have d1:decide ((l.length:Int) > 200)=false:=by simp; omega
 have hv:Gl neg l=if ((decide (l=[]) && neg) || Vl l)=true then false else allD l:=by simp [Gl,h1]
 rw [hv]
 by_cases h2:l=[]
 ·have d2:(((0:Nat):Int) == 0)=true:=rfl
  have d3:decide (((0:Nat):Int) > 0)=false:=rfl
  cases neg with
  | true =>
   subst h2
   simp (maxSteps:=1000000) +contextual (disch:=first|with_reducible assumption|exact ⟨rfl⟩|exact ⟨rfl,rfl⟩|exact ⟨rfl,rfl,rfl⟩|(refine _root_.id ?_; kernel_rfl)|omega) only [evs,Ad,nth,put,putT,getT,Ai,Aj,Ab,aUn,outA,resA,mapO,Aq,Ar,w1,w2,w3,bots,cond_true,cond_false,if_true,if_false,ite_true,ite_false,reduceIte,reduceCtorEq,implies_true,Nat.reduceAdd,Nat.reduceSub,AV.int,AV.bool,AV.str,Nat.reduceBEq,Nat.reduceEqDiff,Nat.reduceMul,Nat.reduceLT,Nat.reduceLeDiff,Int.reduceNeg,BEq.rfl,beq_self_eq_true,tabl,cellsOf,fldA,ldA,stA,Ak,Ao,Am,over,Ag,Value.oneCell',idxA,nilA,Aa,Ap,Ah,pure1,pure2,reps,chkA,tys,Tryz.results119,evt,Av,Au,w2,w1,d1,d2,d3,List.map_nil]
   all_goals simp
  | false =>
   have hz:Vl l=false:=by subst h2; rfl
   rw [hz]
   simp only [Bool.and_false,Bool.or_false,Bool.false_eq_true,if_false]
   have hl0:l.length=0:=by rw [h2]; rfl
   have d2:((l.length:Int) == 0)=true:=by rw [hl0]; rfl
   have d3:decide ((l.length:Int) > 0)=false:=by rw [hl0]; rfl
   simp (maxSteps:=1000000) +contextual (disch:=first|with_reducible assumption|exact ⟨rfl⟩|exact ⟨rfl,rfl⟩|exact ⟨rfl,rfl,rfl⟩|(refine _root_.id ?_; kernel_rfl)|omega) only [evs,Ad,nth,put,putT,getT,Ai,Aj,Ab,aUn,outA,resA,mapO,Aq,Ar,w1,w2,w3,bots,cond_true,cond_false,if_true,if_false,ite_true,ite_false,reduceIte,reduceCtorEq,implies_true,Nat.reduceAdd,Nat.reduceSub,AV.int,AV.bool,AV.str,Nat.reduceBEq,Nat.reduceEqDiff,Nat.reduceMul,Nat.reduceLT,Nat.reduceLeDiff,Int.reduceNeg,BEq.rfl,beq_self_eq_true,tabl,cellsOf,fldA,ldA,stA,Ak,Ao,Am,over,Ag,Value.oneCell',idxA,nilA,Aa,Ap,Ah,pure1,pure2,reps,chkA,tys,Tryz.results119,evt,Av,Au,w2,w1,d1,d2,d3]
   refine loop1 (P:=Tryz.prog) (fun x st=>st.T.length=46∧(x≤l.length)∧(allD l=allD (l.drop x))∧getT st.T 33=digA l∧getT st.T 34=.int l.length∧getT st.T 35=.int (x:Nat)∧st.S=[⟨0,[.bool false,digA l]⟩]) (fun x=>l.length - x) (fun x=>.bool (allD l)) (0) ?_ ?_
   case refine_2=>exact ⟨rfl,Nat.zero_le _,rfl,rfl,rfl,rfl,rfl⟩
   rintro i ⟨T,S',tk',n'⟩ ⟨hl,hi,hn,e33,e34,e35,eS⟩ IH
   subst eS
   obtain ⟨g,hg,hT⟩:=Bp hl
   rw [hg] at e33 e34 e35
   subst hT
   clear hg hl
   by_cases hlt:i<l.length
   ·have d1:decide ((i:Int)<(l.length:Int))=true:=by simpa using hlt
    obtain ⟨x,hx⟩:=A6 hlt
    have hx':=Jp hx
    have hw:=D7 (i:=i) (by omega)
    rw [Bw hx] at hn
    simp only [allD] at hn
    simp (maxSteps:=1000000) +contextual (disch:=first|with_reducible assumption|exact ⟨rfl⟩|exact ⟨rfl,rfl⟩|exact ⟨rfl,rfl,rfl⟩|(refine _root_.id ?_; kernel_rfl)|omega) only [evs,Ad,nth,put,putT,getT,Ai,Aj,Ab,aUn,outA,resA,mapO,Aq,Ar,w1,w2,w3,bots,cond_true,cond_false,if_true,if_false,ite_true,ite_false,reduceIte,reduceCtorEq,implies_true,Nat.reduceAdd,Nat.reduceSub,AV.int,AV.bool,AV.str,Nat.reduceBEq,Nat.reduceEqDiff,Nat.reduceMul,Nat.reduceLT,Nat.reduceLeDiff,Int.reduceNeg,BEq.rfl,beq_self_eq_true,tabl,cellsOf,fldA,ldA,stA,Ak,Ao,Am,over,Ag,Value.oneCell',idxA,nilA,Aa,Ap,Ah,pure1,pure2,reps,chkA,tys,Tryz.results119,evt,Av,Au,e33,e34,e35,d1,digA,hx',hw]
    refine ⟨fun h1=>?_,fun h1=>⟨fun h2=>?_,fun h2=>?_⟩⟩
    ·rw [hn,if_pos (by simp [h1])]
    ·rw [hn,if_pos (by simp only [h1,h2]; rfl)]
    ·exact IH (i+1) _ (by first|omega|(simp only; omega)) ⟨rfl,hlt,by rw [hn,if_neg (by simp only [h1,h2]; simp)],(by first|rfl|simp only [getT,List.map_append,List.map_cons,List.map_nil,digC,digA]),(by first|rfl|simp only [getT,List.map_append,List.map_cons,List.map_nil,digC,digA]),(by first|rfl|simp only [getT,List.map_append,List.map_cons,List.map_nil,digC,digA]),(by first|rfl|simp only [getT,List.map_append,List.map_cons,List.map_nil,digC,digA])⟩
   ·have d1:decide ((i:Int)<(l.length:Int))=false:=by simpa using hlt
    have he:i=l.length:=by omega
    rw [he,List.drop_length] at hn
    simp (maxSteps:=1000000) +contextual (disch:=first|with_reducible assumption|exact ⟨rfl⟩|exact ⟨rfl,rfl⟩|exact ⟨rfl,rfl,rfl⟩|(refine _root_.id ?_; kernel_rfl)|omega) only [evs,Ad,nth,put,putT,getT,Ai,Aj,Ab,aUn,outA,resA,mapO,Aq,Ar,w1,w2,w3,bots,cond_true,cond_false,if_true,if_false,ite_true,ite_false,reduceIte,reduceCtorEq,implies_true,Nat.reduceAdd,Nat.reduceSub,AV.int,AV.bool,AV.str,Nat.reduceBEq,Nat.reduceEqDiff,Nat.reduceMul,Nat.reduceLT,Nat.reduceLeDiff,Int.reduceNeg,BEq.rfl,beq_self_eq_true,tabl,cellsOf,fldA,ldA,stA,Ak,Ao,Am,over,Ag,Value.oneCell',idxA,nilA,Aa,Ap,Ah,pure1,pure2,reps,chkA,tys,Tryz.results119,evt,Av,Au,e33,e34,e35,d1,digA]
    exact hn.symm
 ·have d2:=Vf h2
  have d3:=Vj h2
  have d4:=Ab8 h2 hlen
  have hp:l.length≠0:=fun h'=>h2 (List.length_eq_zero_iff.1 h')
  obtain ⟨x,hx⟩:=A6 (l:=l) (i:=l.length - 1) (by omega)
  have hx':=Jp hx
  have hz:Vl l=(x == 0):=by unfold Vl; rw [hx]
  rw [hz]
  cases d5:x == 0 with
  | true =>
   simp (maxSteps:=1000000) +contextual (disch:=first|with_reducible assumption|exact ⟨rfl⟩|exact ⟨rfl,rfl⟩|exact ⟨rfl,rfl,rfl⟩|(refine _root_.id ?_; kernel_rfl)|omega) only [evs,Ad,nth,put,putT,getT,Ai,Aj,Ab,aUn,outA,resA,mapO,Aq,Ar,w1,w2,w3,bots,cond_true,cond_false,if_true,if_false,ite_true,ite_false,reduceIte,reduceCtorEq,implies_true,Nat.reduceAdd,Nat.reduceSub,AV.int,AV.bool,AV.str,Nat.reduceBEq,Nat.reduceEqDiff,Nat.reduceMul,Nat.reduceLT,Nat.reduceLeDiff,Int.reduceNeg,BEq.rfl,beq_self_eq_true,tabl,cellsOf,fldA,ldA,stA,Ak,Ao,Am,over,Ag,Value.oneCell',idxA,nilA,Aa,Ap,Ah,pure1,pure2,reps,chkA,tys,Tryz.results119,evt,Av,Au,w2,w1,d1,d2,d3,d4,hx',d5]
   all_goals simp
  | false =>
   simp only [h2,decide_false,Bool.false_and,Bool.or_false,Bool.false_eq_true,if_false]
   simp (maxSteps:=1000000) +contextual (disch:=first|with_reducible assumption|exact ⟨rfl⟩|exact ⟨rfl,rfl⟩|exact ⟨rfl,rfl,rfl⟩|(refine _root_.id ?_; kernel_rfl)|omega) only [evs,Ad,nth,put,putT,getT,Ai,Aj,Ab,aUn,outA,resA,mapO,Aq,Ar,w1,w2,w3,bots,cond_true,cond_false,if_true,if_false,ite_true,ite_false,reduceIte,reduceCtorEq,implies_true,Nat.reduceAdd,Nat.reduceSub,AV.int,AV.bool,AV.str,Nat.reduceBEq,Nat.reduceEqDiff,Nat.reduceMul,Nat.reduceLT,Nat.reduceLeDiff,Int.reduceNeg,BEq.rfl,beq_self_eq_true,tabl,cellsOf,fldA,ldA,stA,Ak,Ao,Am,over,Ag,Value.oneCell',idxA,nilA,Aa,Ap,Ah,pure1,pure2,reps,chkA,tys,Tryz.results119,evt,Av,Au,w2,w1,d1,d2,d3,d4,hx',d5]
   refine loop1 (P:=Tryz.prog) (fun x st=>st.T.length=46∧(x≤l.length)∧(allD l=allD (l.drop x))∧getT st.T 33=digA l∧getT st.T 34=.int l.length∧getT st.T 35=.int (x:Nat)∧st.S=[⟨0,[.bool neg,digA l]⟩]) (fun x=>l.length - x) (fun x=>.bool (allD l)) (0) ?_ ?_
   case refine_2=>exact ⟨rfl,Nat.zero_le _,rfl,rfl,rfl,rfl,rfl⟩
   rintro i ⟨T,S',tk',n'⟩ ⟨hl,hi,hn,e33,e34,e35,eS⟩ IH
   subst eS
   obtain ⟨g,hg,hT⟩:=Bp hl
   rw [hg] at e33 e34 e35
   subst hT
   clear hg hl
   by_cases hlt:i<l.length
   ·have d1:decide ((i:Int)<(l.length:Int))=true:=by simpa using hlt
    obtain ⟨x,hx⟩:=A6 hlt
    have hx':=Jp hx
    have hw:=D7 (i:=i) (by omega)
    rw [Bw hx] at hn
    simp only [allD] at hn
    simp (maxSteps:=1000000) +contextual (disch:=first|with_reducible assumption|exact ⟨rfl⟩|exact ⟨rfl,rfl⟩|exact ⟨rfl,rfl,rfl⟩|(refine _root_.id ?_; kernel_rfl)|omega) only [evs,Ad,nth,put,putT,getT,Ai,Aj,Ab,aUn,outA,resA,mapO,Aq,Ar,w1,w2,w3,bots,cond_true,cond_false,if_true,if_false,ite_true,ite_false,reduceIte,reduceCtorEq,implies_true,Nat.reduceAdd,Nat.reduceSub,AV.int,AV.bool,AV.str,Nat.reduceBEq,Nat.reduceEqDiff,Nat.reduceMul,Nat.reduceLT,Nat.reduceLeDiff,Int.reduceNeg,BEq.rfl,beq_self_eq_true,tabl,cellsOf,fldA,ldA,stA,Ak,Ao,Am,over,Ag,Value.oneCell',idxA,nilA,Aa,Ap,Ah,pure1,pure2,reps,chkA,tys,Tryz.results119,evt,Av,Au,e33,e34,e35,d1,digA,hx',hw]
    refine ⟨fun h1=>?_,fun h1=>⟨fun h2=>?_,fun h2=>?_⟩⟩
    ·rw [hn,if_pos (by simp [h1])]
    ·rw [hn,if_pos (by simp only [h1,h2]; rfl)]
    ·exact IH (i+1) _ (by first|omega|(simp only; omega)) ⟨rfl,hlt,by rw [hn,if_neg (by simp only [h1,h2]; simp)],(by first|rfl|simp only [getT,List.map_append,List.map_cons,List.map_nil,digC,digA]),(by first|rfl|simp only [getT,List.map_append,List.map_cons,List.map_nil,digC,digA]),(by first|rfl|simp only [getT,List.map_append,List.map_cons,List.map_nil,digC,digA]),(by first|rfl|simp only [getT,List.map_append,List.map_cons,List.map_nil,digC,digA])⟩
   ·have d1:decide ((i:Int)<(l.length:Int))=false:=by simpa using hlt
    have he:i=l.length:=by omega
    rw [he,List.drop_length] at hn
    simp (maxSteps:=1000000) +contextual (disch:=first|with_reducible assumption|exact ⟨rfl⟩|exact ⟨rfl,rfl⟩|exact ⟨rfl,rfl,rfl⟩|(refine _root_.id ?_; kernel_rfl)|omega) only [evs,Ad,nth,put,putT,getT,Ai,Aj,Ab,aUn,outA,resA,mapO,Aq,Ar,w1,w2,w3,bots,cond_true,cond_false,if_true,if_false,ite_true,ite_false,reduceIte,reduceCtorEq,implies_true,Nat.reduceAdd,Nat.reduceSub,AV.int,AV.bool,AV.str,Nat.reduceBEq,Nat.reduceEqDiff,Nat.reduceMul,Nat.reduceLT,Nat.reduceLeDiff,Int.reduceNeg,BEq.rfl,beq_self_eq_true,tabl,cellsOf,fldA,ldA,stA,Ak,Ao,Am,over,Ag,Value.oneCell',idxA,nilA,Aa,Ap,Ah,pure1,pure2,reps,chkA,tys,Tryz.results119,evt,Av,Au,e33,e34,e35,d1,digA]
    exact hn.symm
end
end Go.Proofs.YtcjffhadclngmaaGreat
namespace Go.Proofs.YtcjffhadclngmaaGreat
open Go
def numC (x:Int):AV:=.prim (.int .i64 x)
theorem Y3 {l:List Int} {i:Nat} {x:Int} (h:nth l i=some x):nth ((l.map numC).drop i) 0=some (.prim (.int .i64 x)):=by
 have:nth (l.map numC) i=some (numC x):=by rw [E2,h]; rfl
 exact Ev this
theorem Wr {l:List Int} {i:Nat} {x v:Int} (h:nth l i=some x):over (l.map numC) i [.prim (.int .i64 v)]=some ((l.set i v).map numC):=by
 have h1:nth (l.map numC) i=some (numC x):=by rw [E2,h]; rfl
 rw [Wf h1]
 have:(.prim (.int .i64 v):AV)=numC v:=rfl
 rw [this,Q2,M6]
theorem Xx {l:List Int} {n:Nat} (h:n≤l.length):Ht 1 n (l.map numC)=some ((l.take n).map digC):=Ps h
theorem Ya (l:List Int):Mj (some (l.map digC))=.frz (l.map digC) .unk:=by
 unfold Mj
 simp only
 rw [if_pos (by simp [digC,pure1,w1,Value.oneCell'])]
 congr 1
 simp [w1,digC]
theorem K4 {l:List Int} {n:Nat} (hn:n≤l.length) (hz:∀ j,n≤j→∀ x,nth l j=some x→x=0) (he:n=0∨∃ x,nth l (n - 1)=some x∧x≠0):D0 l=l.take n:=by
 rw [Lr n l hn hz]
 rcases he with rfl|⟨x,hx,h0⟩
 ·simp [D0]
 ·by_cases h1:n=0
  ·subst h1; simp [D0]
  ·refine Qo _ (n - 1) x ?_ (by simp; omega) h0
   rw [Az,List.getElem?_take_of_lt (by omega),← Az]; exact hx
theorem Acl {n:Nat} (h:n≠0) (hl:n≤1000000):IntKind.i64.wrap ((n:Int) - 1)=((n - 1:Nat):Int):=by
 rw [A0 (by unfold i64; omega)]; omega
theorem Zm {l:List Int} {n:Nat} {x:Int} (hz:∀ j,n≤j→∀ x,nth l j=some x→x=0) (hx:nth l (n - 1)=some x) (hx0:x=0):∀ j,n - 1≤j→∀ y,nth l j=some y→y=0:=fun j hj y hy=>by
 by_cases e:j=n - 1
 ·rw [e,hx] at hy; simp only [Option.some.injEq] at hy; omega
 ·exact hz j (by omega) y hy
theorem Xd (l:List Int):∀ j,l.length≤j→∀ x,nth l j=some x→x=0:=fun j hj x hx=>by have:=B5 hx; omega
end Go.Proofs.YtcjffhadclngmaaGreat
namespace Go.Proofs.YtcjffhadclngmaaGreat
open Go
theorem Adu:∀ {l r:List Int} {i:Nat} {x y:Int},l.length=r.length→okD l→okD r→nth l i=some x→nth r i=some y→x<y→(∀ j,i<j→nth l j=nth r j)→val l<val r
 | d :: l,e :: r,0,x,y,hl,h1,h2,hx,hy,hxy,he=>by
  simp only [nth,Option.some.injEq] at hx hy; subst hx hy
  have:l=r:=by
   apply List.ext_getElem?
   intro j
   have:=he (j+1) (by omega)
   simp only [nth,Az] at this; exact this
  subst this; simp only [val]; omega
 | d :: l,e :: r,i+1,x,y,hl,h1,h2,hx,hy,hxy,he=>by
  have ih:=Adu (l:=l) (r:=r) (i:=i) (by simpa using hl) (fun z hz=>h1 z (by simp [hz])) (fun z hz=>h2 z (by simp [hz])) hx hy hxy fun j hj=>he (j+1) (by omega)
  have g1:=h1 d (by simp)
  have g2:=h2 e (by simp)
  simp only [val]; omega
 | [],_,_,_,_,_,_,_,hx,_,_,_=>by simp [nth] at hx
 | _ :: _,[],_,_,_,_,_,_,_,hy,_,_=>by simp [nth] at hy
def cmpN (a b:Nat):Int:=if a<b then -1 else if b<a then 1 else 0
theorem M7 {a b:Nat} (h:(dig a).length<(dig b).length):a<b:=by
 have h1:=D4 (n:=a) (k:=(dig a).length)
 have h2:=D4 (n:=b) (k:=(dig a).length)
 have h3:¬ (dig b).length≤(dig a).length:=by omega
 rw [h2] at h3
 have:=h1.1 (Nat.le_refl _)
 omega
theorem Ad6 {a b i:Nat} {x y:Int} (hl:(dig a).length=(dig b).length) (hx:nth (dig a) i=some x) (hy:nth (dig b) i=some y) (h:x<y) (he:∀ j,i<j→nth (dig a) j=nth (dig b) j):a<b:=by
 have:=Adu hl (Dy a) (Dy b) hx hy h he
 rw [Di,Di] at this; omega
theorem Acd {a b:Nat} (he:∀ j,nth (dig a) j=nth (dig b) j):a=b:=by
 refine Aer (List.ext_getElem? fun j=>?_)
 rw [← Az,← Az]; exact he j
theorem Qp {n:Nat} (hl:n≤1000000):IntKind.i64.wrap ((n:Int) - 1)=(n:Int) - 1:=A0 (by unfold i64; omega)
end Go.Proofs.YtcjffhadclngmaaGreat
namespace Go.Proofs.YtcjffhadclngmaaGreat
open Go
theorem Gi {l:List Int} {i j:Nat} {x v:Int} (h:nth (l.set i v) j=some x):(j=i∧x=v)∨(j≠i∧nth l j=some x):=by
 rw [← M6] at h
 by_cases e:i=j
 ·subst e; exact .inl ⟨rfl,D5 h⟩
 ·rw [Aw e] at h; exact .inr ⟨fun h=>e h.symm,h⟩
theorem Uh {l:List Int} {i:Nat} {v:Int} (h:i<l.length):nth (l.set i v) i=some v:=by
 rw [Az,List.getElem?_set_self h]
theorem Xb {l:List Int} (h:∀ j x,nth l j=some x→0≤x∧x<10000):okD l:=fun d hd=>by
 obtain ⟨j,hj⟩:=List.mem_iff_getElem?.1 hd
 exact h j d (by rw [Az]; exact hj)
theorem He {l:List Int} (h:okD l) {j:Nat} {x:Int} (hx:nth l j=some x):0≤x∧x<10000:=h x (by rw [Az] at hx; exact List.mem_of_getElem? hx)
def padL (l:List Int) (n:Nat):List Int:=l++List.replicate (n - l.length) 0
theorem V5 {l:List Int} {n:Nat} (h:l.length≤n):(padL l n).length=n:=by simp [padL]; omega
theorem Xc (l:List Int) (n:Nat):val (padL l n)=val l:=by rw [padL,Gm,G2]; omega
theorem Zn {l:List Int} {n j:Nat} {x:Int} (h:nth (padL l n) j=some x):nth l j=some x∨(l.length≤j∧x=0):=by
 rw [Az,padL] at h
 by_cases hj:j<l.length
 ·rw [List.getElem?_append_left hj] at h; left; rw [Az]; exact h
 ·rw [List.getElem?_append_right (by omega)] at h
  right
  refine ⟨by omega,?_⟩
  have:=List.mem_of_getElem? h
  exact (List.mem_replicate.1 this).2
theorem Z8 (n:Nat):(List.replicate n [(.prim (.int .i64 0):AV)]).flatten=(List.replicate n (0:Int)).map numC:=by
 rw [Abz,List.map_replicate]; rfl
def zeroC (n:Nat):List AV:=(List.replicate n (0:Int)).map numC
theorem Af3 {P:Program} {t:TypeId} {n:Nat} (hz:(Bt P t).bind (An P)=some [.prim (.int .i64 0)]) (hs:(Bt P t).bind (szOf P)=some 1) (hb:(Bt P t).bind (M0 P)=some 8) (hn:n≤1048576) :
  mkA P t (.prim (.int .i64 (n:Int))) (.prim (.int .i64 (n:Int)))=some (n,1,zeroC n):=by
 unfold mkA
 rw [hz,hs,hb,intN_cast]
 simp only [mkB]
 rw [if_pos ⟨Nat.le_refl _,hn,by omega,rfl⟩,Z8]; rfl
theorem Ho:∀ l:List Int,D0 l=l.take (D0 l).length
 | []=>rfl
 | d :: l=>by
  rw [D0]
  split
  ·rfl
  ·simp only [List.length_cons,List.take_succ_cons]
   rw [← Ho l]
theorem Ww (n:Nat):(0:Int)<10000 ^ n:=Int.pow_pos (by omega)
structure Plus1 (a b la i:Nat) (out:List Int):Prop where
 len:out.length=la+1
 val:val out+10000 ^ i*val ((dig b).drop i)=(a+b:Nat)
 ok:∀ j x,nth out j=some x→0≤x∧(j<i→x≤19998)∧(i≤j→x<10000)∧(j=la→x=0)
theorem Plus1.start {a b:Nat} : Plus1 a b (dig a).length 0 (padL (dig a) ((dig a).length+1)):=by
 refine ⟨V5 (by omega),?_,fun j x hx=>?_⟩
 ·rw [Xc,Di,List.drop_zero,Di]; simp
 ·rcases Zn hx with h|⟨h,rfl⟩
  ·have:=He (Dy a) h
   have hl:=B5 h
   exact ⟨this.1,by omega,fun _=>this.2,fun e=>by omega⟩
  ·exact ⟨by omega,by omega,by omega,fun _=>rfl⟩
theorem Plus1.step {a b la i:Nat} {out:List Int} {x d:Int} (h:Plus1 a b la i out) (hb:i<la) (hx:nth out i=some x) (hd:nth (dig b) i=some d):Plus1 a b la (i+1) (out.set i (x+d)):=by
 have hdk:=He (Dy b) hd
 refine ⟨by rw [List.length_set]; exact h.len,?_,fun j y hy=>?_⟩
 ·have hv:=h.val
  rw [Bw hd,Go.Proofs.YtcjffhadclngmaaGreat.val] at hv
  rw [Je hx,← hv,Int.pow_succ,Int.mul_add]
  have e1:x+d - x=d:=by omega
  rw [e1,Int.mul_comm d,Int.mul_assoc]; omega
 ·rcases Gi hy with ⟨rfl,rfl⟩|⟨hne,hy⟩
  ·have:=h.ok _ x hx
   exact ⟨by omega,by omega,by omega,by omega⟩
  ·have:=h.ok j y hy
   exact ⟨this.1,fun hj=>this.2.1 (by omega),fun hj=>this.2.2.1 (by omega),this.2.2.2⟩
structure Plus2 (v la i:Nat) (out:List Int):Prop where
 len:out.length=la+1
 val:val out=v
 ok:∀ j x,nth out j=some x→0≤x∧(j<i→x<10000)∧(j=i→x≤19999)∧(i<j→x≤19998)∧(j=la→x≤1∧(i<la→x=0))
theorem Plus2.start {a b la:Nat} {out:List Int} (h:Plus1 a b la (dig b).length out):Plus2 (a+b) la 0 out:=by
 refine ⟨h.len,?_,fun j x hx=>?_⟩
 ·have:=h.val
  rw [List.drop_length,Go.Proofs.YtcjffhadclngmaaGreat.val] at this; omega
 ·have:=h.ok j x hx
  refine ⟨this.1,by omega,fun _=>?_,fun _=>?_,fun e=>⟨by have:=this.2.2.2 e; omega,fun _=>this.2.2.2 e⟩⟩
  ·rcases Nat.lt_or_ge j (dig b).length with hj|hj
   ·have:=this.2.1 hj; omega
   ·have:=this.2.2.1 hj; omega
  ·rcases Nat.lt_or_ge j (dig b).length with hj|hj
   ·exact this.2.1 hj
   ·have:=this.2.2.1 hj; omega
theorem Plus2.small {v la i:Nat} {out:List Int} {x:Int} (h:Plus2 v la i out) (hi:i<la) (hx:nth out i=some x) (h1:x<10000):Plus2 v la (i+1) out:=by
 refine ⟨h.len,h.val,fun j y hy=>?_⟩
 have:=h.ok j y hy
 refine ⟨this.1,fun hj=>?_,fun hj=>by have:=this.2.2.2.1 (by omega); omega,fun hj=>this.2.2.2.1 (by omega),fun e=>⟨(this.2.2.2.2 e).1,fun _=>(this.2.2.2.2 e).2 hi⟩⟩
 by_cases e:j=i
 ·subst e; rw [hx] at hy; simp only [Option.some.injEq] at hy; omega
 ·exact this.2.1 (by omega)
theorem Plus2.big {v la i:Nat} {out:List Int} {x y:Int} (h:Plus2 v la i out) (hi:i<la) (hx:nth out i=some x) (h1:10000≤x) (hy:nth (out.set i (x - 10000)) (i+1)=some y):Plus2 v la (i+1) ((out.set i (x - 10000)).set (i+1) (y+1)):=by
 refine ⟨by rw [List.length_set,List.length_set]; exact h.len,?_,fun j z hz=>?_⟩
 ·rw [Je hy,Je hx,← h.val,Int.pow_succ]
  have e1:x - 10000 - x=-10000:=by omega
  have e2:y+1 - y=1:=by omega
  rw [e1,e2,Int.one_mul,Int.mul_comm (10000 ^ i) 10000,Int.neg_mul]; omega
 ·have hyo:nth out (i+1)=some y:=by
   rcases Gi hy with ⟨e,-⟩|⟨-,hy⟩
   ·omega
   ·exact hy
  have hk:=h.ok i x hx
  have hky:=h.ok (i+1) y hyo
  rcases Gi hz with ⟨rfl,rfl⟩|⟨hne,hz⟩
  ·refine ⟨by omega,by omega,fun _=>by have:=hky.2.2.2.1 (by omega); omega,by omega,fun e=>?_⟩
   have:=(hky.2.2.2.2 e).2 hi
   exact ⟨by omega,by omega⟩
  ·rcases Gi hz with ⟨rfl,rfl⟩|⟨hne2,hz⟩
   ·exact ⟨by omega,fun _=>by omega,by omega,by omega,by omega⟩
   ·have:=h.ok j z hz
    exact ⟨this.1,fun hj=>this.2.1 (by omega),fun hj=>by omega,fun hj=>this.2.2.2.1 (by omega),fun e=>⟨(this.2.2.2.2 e).1,fun _=>(this.2.2.2.2 e).2 hi⟩⟩
theorem Plus2.done {v la:Nat} {out:List Int} (h:Plus2 v la la out):D0 out=dig v:=by
 have hk:okD out:=Xb fun j x hx=>by
  have:=h.ok j x hx
  have hl:=B5 hx
  rw [h.len] at hl
  refine ⟨this.1,?_⟩
  rcases Nat.lt_or_ge j la with hj|hj
  ·exact this.2.1 hj
  ·have:=(this.2.2.2.2 (by omega)).1; omega
 rw [Ef hk,h.val]; congr 1
end Go.Proofs.YtcjffhadclngmaaGreat
namespace Go.Proofs.YtcjffhadclngmaaGreat
open Go
theorem Adh {l:List Int} (h:okD l):val l<10000 ^ l.length:=by
 induction l with
 | nil=>simp [val]
 | cons d l ih =>
  have h1:=h d (by simp)
  have h2:=ih fun x hx=>h x (by simp [hx])
  simp only [val,List.length_cons,Int.pow_succ]; omega
structure P2 (a b la i:Nat) (out:List Int):Prop where
 len:out.length=la
 eqv:val out - 10000 ^ i*val ((dig b).drop i)=(a:Int) - b
 ok:∀ j x,nth out j=some x→-9999≤x∧x≤9999∧(i≤j→0≤x)
theorem P2.start {a b:Nat} : P2 a b (dig a).length 0 (padL (dig a) (dig a).length):=by
 refine ⟨V5 (by omega),?_,fun j x hx=>?_⟩
 ·rw [Xc,Di,List.drop_zero,Di]; simp
 ·rcases Zn hx with h|⟨h,rfl⟩
  ·have:=He (Dy a) h; exact ⟨by omega,by omega,fun _=>this.1⟩
  ·exact ⟨by omega,by omega,fun _=>by omega⟩
theorem P2.step {a b la i:Nat} {out:List Int} {x d:Int} (h:P2 a b la i out) (hx:nth out i=some x) (hd:nth (dig b) i=some d):P2 a b la (i+1) (out.set i (x - d)):=by
 have hdk:=He (Dy b) hd
 refine ⟨by rw [List.length_set]; exact h.len,?_,fun j y hy=>?_⟩
 ·have hv:=h.eqv
  rw [Bw hd,val] at hv
  rw [Je hx,← hv,Int.pow_succ,Int.mul_add]
  have e1:x - d - x=-d:=by omega
  rw [e1,Int.neg_mul,Int.mul_comm d,Int.mul_assoc]; omega
 ·rcases Gi hy with ⟨rfl,rfl⟩|⟨hne,hy⟩
  ·have:=h.ok _ x hx
   exact ⟨by have:=this.2.2 (Nat.le_refl _); omega,by omega,by omega⟩
  ·have:=h.ok j y hy
   exact ⟨this.1,this.2.1,fun hj=>this.2.2 (by omega)⟩
structure Kn (v:Nat) (la i:Nat) (out:List Int):Prop where
 len:out.length=la
 eqv:val out=v
 ok:∀ j x,nth out j=some x→x≤9999∧(j<i→0≤x)∧(j=i→-10000≤x)∧(i<j→-9999≤x)
theorem Kn.start {a b la:Nat} {out:List Int} (h:P2 a b la (dig b).length out) (hab:b≤a):Kn (a - b) la 0 out:=by
 refine ⟨h.len,?_,fun j x hx=>?_⟩
 ·have:=h.eqv
  rw [List.drop_length,val] at this; omega
 ·have:=h.ok j x hx; exact ⟨this.2.1,by omega,by omega,by omega⟩
theorem Kn.small {v la i:Nat} {out:List Int} {x:Int} (h:Kn v la i out) (hx:nth out i=some x) (h1:0≤x):Kn v la (i+1) out:=by
 refine ⟨h.len,h.eqv,fun j y hy=>?_⟩
 have:=h.ok j y hy
 refine ⟨this.1,fun hj=>?_,fun hj=>by have:=this.2.2.2 (by omega); omega,fun hj=>this.2.2.2 (by omega)⟩
 by_cases e:j=i
 ·subst e; rw [hx] at hy; simp only [Option.some.injEq] at hy; omega
 ·exact this.2.1 (by omega)
theorem Kn.neg {v la i:Nat} {out:List Int} {x y:Int} (h:Kn v la i out) (hx:nth out i=some x) (h1:x<0) (hy:nth (out.set i (x+10000)) (i+1)=some y):Kn v la (i+1) ((out.set i (x+10000)).set (i+1) (y - 1)):=by
 have hyo:nth out (i+1)=some y:=by
  rcases Gi hy with ⟨e,-⟩|⟨-,hy⟩
  ·omega
  ·exact hy
 have hk:=h.ok i x hx
 have hky:=h.ok (i+1) y hyo
 refine ⟨by rw [List.length_set,List.length_set]; exact h.len,?_,fun j z hz=>?_⟩
 ·rw [Je hy,Je hx,← h.eqv,Int.pow_succ]
  have e1:x+10000 - x=10000:=by omega
  have e2:y - 1 - y=-1:=by omega
  rw [e1,e2,Int.mul_comm (10000 ^ i) 10000]; omega
 ·rcases Gi hz with ⟨rfl,rfl⟩|⟨hne,hz⟩
  ·exact ⟨by omega,by omega,fun _=>by have:=hky.2.2.2 (by omega); omega,by omega⟩
  ·rcases Gi hz with ⟨rfl,rfl⟩|⟨hne2,hz⟩
   ·exact ⟨by omega,fun _=>by have:=hk.2.2.1 rfl; omega,by omega,by omega⟩
   ·have:=h.ok j z hz
    exact ⟨this.1,fun hj=>this.2.1 (by omega),fun hj=>by omega,fun hj=>this.2.2.2 (by omega)⟩
theorem Kn.done {v la:Nat} {out:List Int} (h:Kn v la la out):D0 out=dig v:=by
 have hk:okD out:=Xb fun j x hx=>by
  have:=h.ok j x hx
  have hl:=B5 hx
  rw [h.len] at hl
  exact ⟨this.2.1 hl,by omega⟩
 rw [Ef hk,h.eqv]; congr 1
theorem Mx (l:List Int) (i:Nat):val (l.drop i)=(nth l i).getD 0+10000*val (l.drop (i+1)):=by
 by_cases h:i<l.length
 ·obtain ⟨x,hx⟩:=A6 h
  rw [Bw hx,hx]; rfl
 ·rw [List.drop_eq_nil_of_le (by omega),List.drop_eq_nil_of_le (by omega),Az,List.getElem?_eq_none (by omega)]; rfl
theorem Mu (a i:Nat):0≤(nth (dig a) i).getD 0∧(nth (dig a) i).getD 0<10000:=by
 cases h:nth (dig a) i with
 | none=>simp
 | some x=>exact He (Dy a) h
theorem Ms {l:List Int} {x:Int} (h:okD l) (h0:0≤x) (h1:x<10000):okD (l++[x]):=fun d hd=>by
 rcases List.mem_append.1 hd with hd|hd
 ·exact h d hd
 ·simp at hd; subst hd; exact ⟨h0,h1⟩
theorem Mt (l:List Int) (x:Int):val (l++[x])=val l+10000 ^ l.length*x:=by rw [Gm]; simp [val]
theorem J6 (i:Nat) (x r:Int):(10000:Int) ^ i*x+10000 ^ (i+1)*r=10000 ^ i*(x+10000*r):=by rw [Int.pow_succ,Int.mul_add,Int.mul_assoc]
structure Sum1 (a b i:Nat) (c:Int) (out:List Int):Prop where
 len:out.length=i
 ok:okD out
 c0:0≤c∧c≤1
 eqv:val out+10000 ^ i*(c+val ((dig a).drop i)+val ((dig b).drop i))=(a+b:Nat)
theorem Sum1.step {a b i:Nat} {c n:Int} {out:List Int} (h:Sum1 a b i c out) (hn:n=(nth (dig a) i).getD 0+(nth (dig b) i).getD 0+c):Sum1 a b (i+1) (n.tdiv 10000) (out++[n.tmod 10000])∧0≤n∧n≤19999∧0≤n.tmod 10000∧n.tmod 10000<10000:=by
 have h1:=Mu a i
 have h2:=Mu b i
 have h3:=h.c0
 have e1:n.tdiv 10000=n / 10000:=Int.tdiv_eq_ediv_of_nonneg (by omega)
 have e2:n.tmod 10000=n % 10000:=Int.tmod_eq_emod_of_nonneg (by omega)
 refine ⟨⟨by simp [h.len],Ms h.ok (by omega) (by omega),by omega,?_⟩,by omega,by omega,by omega,by omega⟩
 have hv:=h.eqv
 rw [Mx (dig a) i,Mx (dig b) i] at hv
 have:n.tmod 10000+10000*(n.tdiv 10000+val ((dig a).drop (i+1))+val ((dig b).drop (i+1)))=c+((nth (dig a) i).getD 0+10000*val ((dig a).drop (i+1)))+((nth (dig b) i).getD 0+10000*val ((dig b).drop (i+1))):=by omega
 rw [Mt,h.len,Int.add_assoc,J6,this]
 exact hv
theorem Sum1.done {a b i:Nat} {c:Int} {out:List Int} (h:Sum1 a b i c out) (h1:(dig a).length≤i) (h2:(dig b).length≤i) (h3:c=0):D0 out=dig (a+b):=by
 have hv:=h.eqv
 rw [List.drop_eq_nil_of_le h1,List.drop_eq_nil_of_le h2,h3] at hv
 simp only [val] at hv
 rw [Ef h.ok]
 congr 1; omega
structure Dif1 (a b i:Nat) (c:Int) (out:List Int):Prop where
 len:out.length=i
 ok:okD out
 c0:0≤c∧c≤1
 eqv:val out+10000 ^ i*(val ((dig a).drop i) - val ((dig b).drop i) - c)=(a:Int) - b
theorem Dif1.step {a b i:Nat} {c n d:Int} {out:List Int} (h:Dif1 a b i c out) (hd:nth (dig a) i=some d) (hn:n=d - (nth (dig b) i).getD 0 - c):(n<0→Dif1 a b (i+1) 1 (out++[n+10000]))∧(¬ n<0→Dif1 a b (i+1) 0 (out++[n]))∧-10000≤n∧n<10000:=by
 have h1:=He (Dy a) hd
 have h2:=Mu b i
 have h3:=h.c0
 have hv:=h.eqv
 rw [Mx (dig b) i,Bw hd,val] at hv
 refine ⟨fun hn0=>⟨by simp [h.len],Ms h.ok (by omega) (by omega),by omega,?_⟩,fun hn0=>⟨by simp [h.len],Ms h.ok (by omega) (by omega),by omega,?_⟩,by omega,by omega⟩
 ·have:n+10000+10000*(val ((dig a).drop (i+1)) - val ((dig b).drop (i+1)) - 1)=d+10000*val ((dig a).drop (i+1)) - ((nth (dig b) i).getD 0+10000*val ((dig b).drop (i+1))) - c:=by omega
  rw [Mt,h.len,Int.add_assoc,J6,this]
  exact hv
 ·have:n+10000*(val ((dig a).drop (i+1)) - val ((dig b).drop (i+1)) - 0)=d+10000*val ((dig a).drop (i+1)) - ((nth (dig b) i).getD 0+10000*val ((dig b).drop (i+1))) - c:=by omega
  rw [Mt,h.len,Int.add_assoc,J6,this]
  exact hv
theorem Acc {a b:Nat} (h:b≤a):(dig b).length≤(dig a).length:=by
 rw [D4]
 have:=(D4 (n:=a) (k:=(dig a).length)).1 (Nat.le_refl _)
 omega
theorem Dif1.done {a b:Nat} {c:Int} {out:List Int} (h:Dif1 a b (dig a).length c out) (hab:b≤a):D0 out=dig (a - b):=by
 have hv:=h.eqv
 have h3:=h.c0
 rw [List.drop_length,List.drop_eq_nil_of_le (Acc hab)] at hv
 simp only [val] at hv
 have hlt:=Adh h.ok
 rw [h.len] at hlt
 have hp:=Ww (dig a).length
 have hc:c=0:=by
  rcases Int.lt_or_le c 1 with h1|h1
  ·omega
  ·have:c=1:=by omega
   subst this
   have:(10000:Int) ^ (dig a).length*(0 - 0 - 1)=-(10000 ^ (dig a).length):=by omega
   omega
 subst hc
 rw [Ef h.ok]
 congr 1
 have:(10000:Int) ^ (dig a).length*(0 - 0 - 0)=0:=by simp
 omega
end Go.Proofs.YtcjffhadclngmaaGreat
namespace Go.Proofs.YtcjffhadclngmaaGreat
open Go
theorem Rb {l:List Int} {i:Nat} {x:Int} (h:okD l) (h0:0≤x) (h1:x<10000):okD (l.set i x):=fun d hd=>by
 rcases List.mem_or_eq_of_mem_set hd with hd|rfl
 ·exact h d hd
 ·exact ⟨h0,h1⟩
structure Mul1 (X Y i:Nat) (out:List Int):Prop where
 len:out.length=(dig X).length+(dig Y).length
 ok:okD out
 zero:∀ j x,i+(dig Y).length≤j→nth out j=some x→x=0
 eqv:val out+10000 ^ i*(val ((dig X).drop i)*Y)=X*Y
theorem Mul1.start (X Y:Nat):Mul1 X Y 0 (List.replicate ((dig X).length+(dig Y).length) 0):=by
 have hz:∀ (n j:Nat) (x:Int),nth (List.replicate n (0:Int)) j=some x→x=0:=fun n j x h=>by
  rw [Az] at h
  exact (List.mem_replicate.1 (List.mem_of_getElem? h)).2
 refine ⟨by simp,Xb fun j x hx=>by rw [hz _ _ _ hx]; omega,fun j x _ hx=>hz _ _ _ hx,?_⟩
 rw [G2,List.drop_zero,Di]; simp
structure Mul2 (X Y i k:Nat) (v d c:Int) (out:List Int):Prop where
 len:out.length=(dig X).length+(dig Y).length
 ok:okD out
 zero:∀ j x,i+(dig Y).length≤j→(k≤(dig Y).length∨i+(dig Y).length<j)→nth out j=some x→x=0
 c0:0≤c∧c<10000
 eqv:val out+10000 ^ (i+k)*(c+d*val ((dig Y).drop k))=v
theorem Mul2.start {X Y i:Nat} {d:Int} {out:List Int} (h:Mul1 X Y i out):Mul2 X Y i 0 (val out+10000 ^ i*(d*Y)) d 0 out :=
 ⟨h.len,h.ok,fun j x hj _ hx=>h.zero j x hj hx,by omega,by rw [List.drop_zero,Di]; simp⟩
theorem Mul2.step {X Y i k:Nat} {v d c x n:Int} {out:List Int} (h:Mul2 X Y i k v d c out) (hk:k≤(dig Y).length) (hd:0≤d∧d<10000) (hx:nth out (i+k)=some x) (hn:n=c+x+d*(nth (dig Y) k).getD 0) :
  Mul2 X Y i (k+1) v d (n.tdiv 10000) (out.set (i+k) (n.tmod 10000))∧0≤n∧n≤99999999∧n.tdiv 10000=n / 10000:=by
 have h1:=Mu Y k
 have h2:=He h.ok hx
 have h3:=h.c0
 have hp0:0≤d*(nth (dig Y) k).getD 0:=Int.mul_nonneg hd.1 h1.1
 have hp1:d*(nth (dig Y) k).getD 0≤9999*9999:=Int.mul_le_mul (by omega) (by omega) h1.1 (by omega)
 have e1:n.tdiv 10000=n / 10000:=Int.tdiv_eq_ediv_of_nonneg (by omega)
 have e2:n.tmod 10000=n % 10000:=Int.tmod_eq_emod_of_nonneg (by omega)
 refine ⟨⟨by rw [List.length_set]; exact h.len,Rb h.ok (by omega) (by omega),fun j y hj hjk hy=>?_,by omega,?_⟩,by omega,by omega,e1⟩
 ·rcases Gi hy with ⟨rfl,rfl⟩|⟨hne,hy⟩
  ·have hkk:k=(dig Y).length:=by omega
   omega
  ·exact h.zero j y hj (by omega) hy
 ·have hv:=h.eqv
  rw [Mx (dig Y) k] at hv
  have hmul:d*((nth (dig Y) k).getD 0+10000*val ((dig Y).drop (k+1)))=d*(nth (dig Y) k).getD 0+10000*(d*val ((dig Y).drop (k+1))):=by
   rw [Int.mul_add,Int.mul_left_comm]
  rw [hmul] at hv
  rw [Je hx,Int.add_assoc,← Nat.add_assoc,Int.mul_comm (n.tmod 10000 - x),J6,← hv]
  congr 2
  omega
theorem Mul2.next {X Y i:Nat} {d c x:Int} {o out:List Int} (h:Mul2 X Y i (dig Y).length (val o+10000 ^ i*(d*Y)) d c out) (h0:Mul1 X Y i o) (hd:nth (dig X) i=some d) (hx:nth out (i+(dig Y).length)=some x):x=0∧Mul1 X Y (i+1) (out.set (i+(dig Y).length) (x+c)):=by
 have hx0:=h.zero _ x (Nat.le_refl _) (.inl (Nat.le_refl _)) hx
 subst hx0
 have h3:=h.c0
 refine ⟨rfl,by rw [List.length_set]; exact h.len,Rb h.ok (by omega) (by omega),fun j y hj hy=>?_,?_⟩
 ·rcases Gi hy with ⟨rfl,rfl⟩|⟨hne,hy⟩
  ·omega
  ·exact h.zero j y (by omega) (.inl (Nat.le_refl _)) hy
 ·have hv:=h.eqv
  rw [List.drop_length] at hv
  simp only [val,Int.mul_zero,Int.add_zero] at hv
  have hv0:=h0.eqv
  rw [Bw hd,val] at hv0
  rw [Je hx,← hv0]
  have e1:(0:Int)+c - 0=c:=by omega
  rw [e1,Int.mul_comm c,hv,Int.add_assoc,J6]
  congr 2
  rw [Int.add_mul,Int.mul_assoc]
theorem Mul1.done {X Y:Nat} {out:List Int} (h:Mul1 X Y (dig X).length out):D0 out=dig (X*Y):=by
 have hv:=h.eqv
 rw [List.drop_length] at hv
 simp only [val,Int.zero_mul,Int.mul_zero,Int.add_zero] at hv
 rw [Ef h.ok,hv]
 congr 1
end Go.Proofs.YtcjffhadclngmaaGreat
namespace Go.Proofs.YtcjffhadclngmaaGreat
open Go
theorem V_bad {p:Bool} {l:List Int} (h:Gl p l=false):V p l=0:=by simp [V,h]
end Go.Proofs.YtcjffhadclngmaaGreat
namespace Go.Proofs.YtcjffhadclngmaaGreat
open Go
def sg (p:Bool) (n:Nat):Int:=if p=true then -(n:Int) else n
def okZ (z:Int):Bool:=!decide (200<(dig z.natAbs).length)
theorem V_sg (p:Bool) (l:List Int):V p l=sg p (V p l).natAbs:=by
 unfold V
 cases h:Gl p l with
 | false=>cases p <;> simp [sg]
 | true =>
  have h3:=E7 (Na h).2.1
  cases p <;> simp [sg] <;> omega
end Go.Proofs.YtcjffhadclngmaaGreat
namespace Go.Proofs.YtcjffhadclngmaaGreat
open Go
section
variable (S:List Ent) (tk:List Nat) (k:Nat)
theorem Zv (a b:Nat) (ha:(dig a).length≤1000000) (hb:(dig b).length≤1000000):cL Tryz.prog 174 [digA (dig a),digA (dig b)] S tk k=some (.int (cmpN a b),S,tk,k):=by
 refine A9 Tryz.func174 rfl rfl (by decide +kernel) (by decide +kernel) Tryz.ntmps174 rfl rfl _ _ _ rfl ?_; rw [Bs]
 by_cases hl:(dig a).length=(dig b).length
 case neg =>
  have d1:(((dig a).length:Int) != ((dig b).length:Int))=true:=by simp; omega
  rcases Nat.lt_or_ge (dig a).length (dig b).length with h|h
  ·have d2:decide (((dig a).length:Int)<((dig b).length:Int))=true:=by simpa using h
   have:=M7 h
   simp (maxSteps:=1000000) +contextual (disch:=first|with_reducible assumption|exact ⟨rfl⟩|exact ⟨rfl,rfl⟩|exact ⟨rfl,rfl,rfl⟩|(refine _root_.id ?_; kernel_rfl)|omega) only [evs,Ad,nth,put,putT,getT,Ai,Aj,Ab,aUn,outA,resA,mapO,Aq,Ar,w1,w2,w3,bots,cond_true,cond_false,if_true,if_false,ite_true,ite_false,reduceIte,reduceCtorEq,implies_true,Nat.reduceAdd,Nat.reduceSub,AV.int,AV.bool,AV.str,Nat.reduceBEq,Nat.reduceEqDiff,Nat.reduceMul,Nat.reduceLT,Nat.reduceLeDiff,Int.reduceNeg,BEq.rfl,beq_self_eq_true,tabl,cellsOf,fldA,ldA,stA,Ak,Ao,Am,over,Ag,Value.oneCell',idxA,nilA,Aa,Ap,Ah,pure1,pure2,reps,chkA,tys,Tryz.results174,evt,Av,Au,digA,d1,d2]
   simp [cmpN,this]
  ·have d2:decide (((dig a).length:Int)<((dig b).length:Int))=false:=by simp; omega
   have:=M7 (a:=b) (b:=a) (by omega)
   simp (maxSteps:=1000000) +contextual (disch:=first|with_reducible assumption|exact ⟨rfl⟩|exact ⟨rfl,rfl⟩|exact ⟨rfl,rfl,rfl⟩|(refine _root_.id ?_; kernel_rfl)|omega) only [evs,Ad,nth,put,putT,getT,Ai,Aj,Ab,aUn,outA,resA,mapO,Aq,Ar,w1,w2,w3,bots,cond_true,cond_false,if_true,if_false,ite_true,ite_false,reduceIte,reduceCtorEq,implies_true,Nat.reduceAdd,Nat.reduceSub,AV.int,AV.bool,AV.str,Nat.reduceBEq,Nat.reduceEqDiff,Nat.reduceMul,Nat.reduceLT,Nat.reduceLeDiff,Int.reduceNeg,BEq.rfl,beq_self_eq_true,tabl,cellsOf,fldA,ldA,stA,Ak,Ao,Am,over,Ag,Value.oneCell',idxA,nilA,Aa,Ap,Ah,pure1,pure2,reps,chkA,tys,Tryz.results174,evt,Av,Au,digA,d1,d2]
   rw [cmpN,if_neg (by omega),if_pos this]
 have d1:(((dig a).length:Int) != ((dig b).length:Int))=false:=by simp; omega
 have d3:=Qp ha
 simp (maxSteps:=1000000) +contextual (disch:=first|with_reducible assumption|exact ⟨rfl⟩|exact ⟨rfl,rfl⟩|exact ⟨rfl,rfl,rfl⟩|(refine _root_.id ?_; kernel_rfl)|omega) only [evs,Ad,nth,put,putT,getT,Ai,Aj,Ab,aUn,outA,resA,mapO,Aq,Ar,w1,w2,w3,bots,cond_true,cond_false,if_true,if_false,ite_true,ite_false,reduceIte,reduceCtorEq,implies_true,Nat.reduceAdd,Nat.reduceSub,AV.int,AV.bool,AV.str,Nat.reduceBEq,Nat.reduceEqDiff,Nat.reduceMul,Nat.reduceLT,Nat.reduceLeDiff,Int.reduceNeg,BEq.rfl,beq_self_eq_true,tabl,cellsOf,fldA,ldA,stA,Ak,Ao,Am,over,Ag,Value.oneCell',idxA,nilA,Aa,Ap,Ah,pure1,pure2,reps,chkA,tys,Tryz.results174,evt,Av,Au,digA,d1,d3]
 refine loop1 (P:=Tryz.prog) (fun x st=>st.T.length=41∧(x≤(dig a).length)∧(∀ j,x≤j→nth (dig a) j=nth (dig b) j)∧getT st.T 0=digA (dig a)∧getT st.T 1=digA (dig b)∧getT st.T 5=.int ((x:Int) - 1)∧st.S=[]) (fun x=>x) (fun x=>.int (cmpN a b)) ((dig a).length) ?_ ?_
 case refine_2=>exact ⟨rfl,Nat.le_refl _,fun j hj=>by rw [Az,Az,List.getElem?_eq_none hj,List.getElem?_eq_none (by omega)],rfl,rfl,rfl,rfl⟩
 rintro n ⟨T,S',tk',n'⟩ ⟨hl,hn,he,e0,e1,e5,eS⟩ IH
 subst eS
 obtain ⟨g,hg,hT⟩:=Bp hl
 rw [hg] at e0 e1 e5
 subst hT
 clear hg hl
 by_cases h0:n=0
 ·have d2:decide ((n:Int) - 1 ≥ 0)=false:=by simp; omega
  have:=Acd fun j=>he j (by omega)
  subst this
  simp (maxSteps:=1000000) +contextual (disch:=first|with_reducible assumption|exact ⟨rfl⟩|exact ⟨rfl,rfl⟩|exact ⟨rfl,rfl,rfl⟩|(refine _root_.id ?_; kernel_rfl)|omega) only [evs,Ad,nth,put,putT,getT,Ai,Aj,Ab,aUn,outA,resA,mapO,Aq,Ar,w1,w2,w3,bots,cond_true,cond_false,if_true,if_false,ite_true,ite_false,reduceIte,reduceCtorEq,implies_true,Nat.reduceAdd,Nat.reduceSub,AV.int,AV.bool,AV.str,Nat.reduceBEq,Nat.reduceEqDiff,Nat.reduceMul,Nat.reduceLT,Nat.reduceLeDiff,Int.reduceNeg,BEq.rfl,beq_self_eq_true,tabl,cellsOf,fldA,ldA,stA,Ak,Ao,Am,over,Ag,Value.oneCell',idxA,nilA,Aa,Ap,Ah,pure1,pure2,reps,chkA,tys,Tryz.results174,evt,Av,Au,e0,e1,e5,d2,digA]
  simp [cmpN]
 ·have d2:decide ((n:Int) - 1 ≥ 0)=true:=by simp; omega
  have hi:(n:Int) - 1=((n - 1:Nat):Int):=by omega
  obtain ⟨x,hx⟩:=A6 (show n - 1<(dig a).length by omega)
  obtain ⟨y,hy⟩:=A6 (show n - 1<(dig b).length by omega)
  have hx':=Jp hx
  have hy':=Jp hy
  have he':∀ j,n - 1<j→nth (dig a) j=nth (dig b) j:=fun j hj=>he j (by omega)
  have hp:=Qp (n:=n - 1) (by omega)
  rw [hi] at e5 d2
  by_cases hxy:x=y
  ·have d4:(x != y)=false:=by simpa using hxy
   simp (maxSteps:=1000000) +contextual (disch:=first|with_reducible assumption|exact ⟨rfl⟩|exact ⟨rfl,rfl⟩|exact ⟨rfl,rfl,rfl⟩|(refine _root_.id ?_; kernel_rfl)|omega) only [evs,Ad,nth,put,putT,getT,Ai,Aj,Ab,aUn,outA,resA,mapO,Aq,Ar,w1,w2,w3,bots,cond_true,cond_false,if_true,if_false,ite_true,ite_false,reduceIte,reduceCtorEq,implies_true,Nat.reduceAdd,Nat.reduceSub,AV.int,AV.bool,AV.str,Nat.reduceBEq,Nat.reduceEqDiff,Nat.reduceMul,Nat.reduceLT,Nat.reduceLeDiff,Int.reduceNeg,BEq.rfl,beq_self_eq_true,tabl,cellsOf,fldA,ldA,stA,Ak,Ao,Am,over,Ag,Value.oneCell',idxA,nilA,Aa,Ap,Ah,pure1,pure2,reps,chkA,tys,Tryz.results174,evt,Av,Au,e0,e1,e5,d2,d4,digA,hx',hy',hp]
   exact IH (n - 1) _ (by first|omega|(simp only; omega)) ⟨rfl,by first|omega|(dsimp only; omega),fun j hj=>by by_cases e:j=n - 1; (· rw [e,hx,hy,hxy]); exact he' j (by first|omega|(dsimp only; omega)),(by first|rfl|simp only [getT,List.map_append,List.map_cons,List.map_nil,digC,digA]),(by first|rfl|simp only [getT,List.map_append,List.map_cons,List.map_nil,digC,digA]),(by first|rfl|simp only [getT,List.map_append,List.map_cons,List.map_nil,digC,digA]),(by first|rfl|simp only [getT,List.map_append,List.map_cons,List.map_nil,digC,digA])⟩
  ·have d4:(x != y)=true:=by simpa using hxy
   by_cases h1:x<y
   ·have d5:decide (x<y)=true:=by simpa using h1
    have:=Ad6 hl hx hy h1 he'
    simp (maxSteps:=1000000) +contextual (disch:=first|with_reducible assumption|exact ⟨rfl⟩|exact ⟨rfl,rfl⟩|exact ⟨rfl,rfl,rfl⟩|(refine _root_.id ?_; kernel_rfl)|omega) only [evs,Ad,nth,put,putT,getT,Ai,Aj,Ab,aUn,outA,resA,mapO,Aq,Ar,w1,w2,w3,bots,cond_true,cond_false,if_true,if_false,ite_true,ite_false,reduceIte,reduceCtorEq,implies_true,Nat.reduceAdd,Nat.reduceSub,AV.int,AV.bool,AV.str,Nat.reduceBEq,Nat.reduceEqDiff,Nat.reduceMul,Nat.reduceLT,Nat.reduceLeDiff,Int.reduceNeg,BEq.rfl,beq_self_eq_true,tabl,cellsOf,fldA,ldA,stA,Ak,Ao,Am,over,Ag,Value.oneCell',idxA,nilA,Aa,Ap,Ah,pure1,pure2,reps,chkA,tys,Tryz.results174,evt,Av,Au,e0,e1,e5,d2,d4,d5,digA,hx',hy',hp]
    simp [cmpN,this]
   ·have d5:decide (x<y)=false:=by simpa using h1
    have:=Ad6 hl.symm hy hx (by omega) fun j hj=>(he' j hj).symm
    simp (maxSteps:=1000000) +contextual (disch:=first|with_reducible assumption|exact ⟨rfl⟩|exact ⟨rfl,rfl⟩|exact ⟨rfl,rfl,rfl⟩|(refine _root_.id ?_; kernel_rfl)|omega) only [evs,Ad,nth,put,putT,getT,Ai,Aj,Ab,aUn,outA,resA,mapO,Aq,Ar,w1,w2,w3,bots,cond_true,cond_false,if_true,if_false,ite_true,ite_false,reduceIte,reduceCtorEq,implies_true,Nat.reduceAdd,Nat.reduceSub,AV.int,AV.bool,AV.str,Nat.reduceBEq,Nat.reduceEqDiff,Nat.reduceMul,Nat.reduceLT,Nat.reduceLeDiff,Int.reduceNeg,BEq.rfl,beq_self_eq_true,tabl,cellsOf,fldA,ldA,stA,Ak,Ao,Am,over,Ag,Value.oneCell',idxA,nilA,Aa,Ap,Ah,pure1,pure2,reps,chkA,tys,Tryz.results174,evt,Av,Au,e0,e1,e5,d2,d4,d5,digA,hx',hy',hp]
    rw [cmpN,if_neg (by omega),if_pos this]
theorem Tt (l:List Int) (id ep:Nat) (hlen:l.length≤1000000) (h:Ak S id ep=some (l.map numC)):cL Tryz.prog 175 [.sref id ep 0 l.length 1] S tk k=some (.sref id ep 0 (D0 l).length 1,S,tk,k):=by
 refine Dz Tryz.func175 rfl rfl (by decide +kernel) Tryz.ntmps175 rfl ?_; rw [Bs]
 have hid:id<S.length:=by
  obtain ⟨e,h1,-⟩:=Ds h
  exact B5 h1
 simp (maxSteps:=1000000) +contextual (disch:=first|with_reducible assumption|exact ⟨rfl⟩|exact ⟨rfl,rfl⟩|exact ⟨rfl,rfl,rfl⟩|(refine _root_.id ?_; kernel_rfl)|omega) only [evs,Ad,nth,put,putT,getT,Ai,Aj,Ab,aUn,outA,resA,mapO,Aq,Ar,w1,w2,w3,bots,cond_true,cond_false,if_true,if_false,ite_true,ite_false,reduceIte,reduceCtorEq,implies_true,Nat.reduceAdd,Nat.reduceSub,AV.int,AV.bool,AV.str,Nat.reduceBEq,Nat.reduceEqDiff,Nat.reduceMul,Nat.reduceLT,Nat.reduceLeDiff,Int.reduceNeg,BEq.rfl,beq_self_eq_true,tabl,cellsOf,fldA,ldA,stA,Ae,Af,Ac,List.take_left,List.take_length,Ao,Am,over,Ag,Value.oneCell',idxA,nilA,Aa,Ap,Ah,pure1,pure2,reps,chkA,tys,Tryz.results175,evt,Av,Au,w2,w1]
 refine Aaj (P:=Tryz.prog) (fun x st=>st.T.length=21∧(x≤l.length)∧(∀ j,x≤j→∀ x,nth l j=some x→x=0)∧getT st.T 0=.sref id ep 0 x 1∧st.S=S∧st.tk=tk∧st.n=k) (fun x=>x) (fun x=>(.sref id ep 0 (D0 l).length 1,S,tk,k)) (l.length) ?_ ?_
 case refine_2=>exact ⟨rfl,Nat.le_refl _,Xd l,rfl,rfl,rfl,rfl⟩
 rintro n ⟨T,S',tk',n'⟩ ⟨hl,hn,hz,e0,eS,eT,eN⟩ IH
 subst eS eT eN
 obtain ⟨g,hg,hT⟩:=Bp hl
 rw [hg] at e0
 subst hT
 clear hg hl
 by_cases h0:n=0
 ·have d1:decide ((n:Int) > 0)=false:=by simp; omega
  have ht:=K4 hn hz (.inl h0)
  simp (maxSteps:=1000000) +contextual (disch:=first|with_reducible assumption|exact ⟨rfl⟩|exact ⟨rfl,rfl⟩|exact ⟨rfl,rfl,rfl⟩|(refine _root_.id ?_; kernel_rfl)|omega) only [evs,Ad,nth,put,putT,getT,Ai,Aj,Ab,aUn,outA,resA,mapO,Aq,Ar,w1,w2,w3,bots,cond_true,cond_false,if_true,if_false,ite_true,ite_false,reduceIte,reduceCtorEq,implies_true,Nat.reduceAdd,Nat.reduceSub,AV.int,AV.bool,AV.str,Nat.reduceBEq,Nat.reduceEqDiff,Nat.reduceMul,Nat.reduceLT,Nat.reduceLeDiff,Int.reduceNeg,BEq.rfl,beq_self_eq_true,tabl,cellsOf,fldA,ldA,stA,Ae,Af,Ac,List.take_left,List.take_length,Ao,Am,over,Ag,Value.oneCell',idxA,nilA,Aa,Ap,Ah,pure1,pure2,reps,chkA,tys,Tryz.results175,evt,Av,Au,e0,d1]
  rw [ht]; simp [h0]
 ·have d1:decide ((n:Int) > 0)=true:=by simp; omega
  have hp:=Acl h0 (by omega)
  have hn1:n - 1<l.length:=by omega
  have hn2:n - 1<n:=by omega
  have hn3:n - 1≤n:=by omega
  obtain ⟨x,hx⟩:=A6 hn1
  have hx':=Y3 hx
  by_cases hx0:x=0
  ·have d2:(x == 0)=true:=by simpa using hx0
   simp (maxSteps:=1000000) +contextual (disch:=first|with_reducible assumption|exact ⟨rfl⟩|exact ⟨rfl,rfl⟩|exact ⟨rfl,rfl,rfl⟩|(refine _root_.id ?_; kernel_rfl)|omega) only [evs,Ad,nth,put,putT,getT,Ai,Aj,Ab,aUn,outA,resA,mapO,Aq,Ar,w1,w2,w3,bots,cond_true,cond_false,if_true,if_false,ite_true,ite_false,reduceIte,reduceCtorEq,implies_true,Nat.reduceAdd,Nat.reduceSub,AV.int,AV.bool,AV.str,Nat.reduceBEq,Nat.reduceEqDiff,Nat.reduceMul,Nat.reduceLT,Nat.reduceLeDiff,Int.reduceNeg,BEq.rfl,beq_self_eq_true,tabl,cellsOf,fldA,ldA,stA,Ae,Af,Ac,List.take_left,List.take_length,Ao,Am,over,Ag,Value.oneCell',idxA,nilA,Aa,Ap,Ah,pure1,pure2,reps,chkA,tys,Tryz.results175,evt,Av,Au,e0,d1,d2,hp,hx',h,hn1,hn2,hn3,Nat.mul_one,Kj,bound,intN_cast,Nat.le_refl,Nat.zero_le,Nat.zero_mul,Nat.sub_zero,Nat.add_zero]
   exact IH (n - 1) _ (by first|omega|(simp only; omega)) ⟨rfl,by first|omega|(dsimp only; omega),Zm hz hx hx0,by and_intros <;> first|rfl|simp only [getT,List.map_append,List.map_cons,List.map_nil,digC,digA]⟩
  ·have d2:(x == 0)=false:=by simpa using hx0
   have ht:=K4 hn hz (.inr ⟨x,hx,hx0⟩)
   simp (maxSteps:=1000000) +contextual (disch:=first|with_reducible assumption|exact ⟨rfl⟩|exact ⟨rfl,rfl⟩|exact ⟨rfl,rfl,rfl⟩|(refine _root_.id ?_; kernel_rfl)|omega) only [evs,Ad,nth,put,putT,getT,Ai,Aj,Ab,aUn,outA,resA,mapO,Aq,Ar,w1,w2,w3,bots,cond_true,cond_false,if_true,if_false,ite_true,ite_false,reduceIte,reduceCtorEq,implies_true,Nat.reduceAdd,Nat.reduceSub,AV.int,AV.bool,AV.str,Nat.reduceBEq,Nat.reduceEqDiff,Nat.reduceMul,Nat.reduceLT,Nat.reduceLeDiff,Int.reduceNeg,BEq.rfl,beq_self_eq_true,tabl,cellsOf,fldA,ldA,stA,Ae,Af,Ac,List.take_left,List.take_length,Ao,Am,over,Ag,Value.oneCell',idxA,nilA,Aa,Ap,Ah,pure1,pure2,reps,chkA,tys,Tryz.results175,evt,Av,Au,e0,d1,d2,hp,hx',h,hn1,hn2,Nat.mul_one,Kj,bound,intN_cast,hn,Nat.le_refl,Nat.zero_le,Nat.zero_mul,Nat.sub_zero,Nat.add_zero]
   rw [ht]; simp; omega
set_option maxRecDepth 100000 in
theorem Up (X Y:Nat) (ha:(dig X).length≤100000) (hb:(dig Y).length≤100000):cL Tryz.prog 177 [digA (dig X),digA (dig Y)] S tk k=some (digA (dig (X*Y)),S,tk,k):=by
 refine A9 Tryz.func177 rfl rfl (by decide +kernel) (by decide +kernel) Tryz.ntmps177 rfl rfl _ _ _ rfl ?_; rw [Bs]
 have hw:IntKind.i64.wrap (((dig X).length:Int)+((dig Y).length:Int))=(((dig X).length+(dig Y).length:Nat):Int):=by rw [A0 (by unfold i64; omega)]; omega
 have hbo:(Bt Tryz.prog 37).bind (M0 Tryz.prog)=some 8:=by kernel_rfl
 have hmk:=Af3 (P:=Tryz.prog) (t:=37) (n:=(dig X).length+(dig Y).length) (by simp only [tys,Option.bind_some]) (by simp only [tys,Option.bind_some]) hbo (by omega)
 simp (maxSteps:=1000000) +contextual (disch:=first|with_reducible assumption|exact ⟨rfl⟩|exact ⟨rfl,rfl⟩|exact ⟨rfl,rfl,rfl⟩|(refine _root_.id ?_; kernel_rfl)|omega) only [evs,Ad,nth,put,putT,getT,Ai,Aj,Ab,aUn,outA,resA,mapO,Aq,Ar,w1,w2,w3,bots,cond_true,cond_false,if_true,if_false,ite_true,ite_false,reduceIte,reduceCtorEq,implies_true,Nat.reduceAdd,Nat.reduceSub,AV.int,AV.bool,AV.str,Nat.reduceBEq,Nat.reduceEqDiff,Nat.reduceMul,Nat.reduceLT,Nat.reduceLeDiff,Int.reduceNeg,BEq.rfl,beq_self_eq_true,tabl,cellsOf,fldA,ldA,stA,Ak,Ao,Am,over,Ag,Value.oneCell',idxA,nilA,Aa,Ap,Ah,pure1,pure2,reps,chkA,tys,Tryz.results177,evt,Av,Au,digA,hw,hmk]
 refine loop1 (P:=Tryz.prog) (fun x st=>st.T.length=67∧(x.1≤(dig X).length)∧(Mul1 X Y x.1 x.2)∧getT st.T 0=digA (dig X)∧getT st.T 1=digA (dig Y)∧getT st.T 5=.sref 0 0 0 ((dig X).length+(dig Y).length) 1∧getT st.T 18=digA (dig X)∧getT st.T 19=.int (dig X).length∧getT st.T 20=.int (x.1:Nat)∧st.S=[⟨0,x.2.map numC⟩]) (fun x=>(dig X).length - x.1) (fun x=>digA (dig (X*Y))) (0,List.replicate ((dig X).length+(dig Y).length) 0) ?_ ?_
 case refine_2=>exact ⟨rfl,Nat.zero_le _,Mul1.start X Y,rfl,rfl,rfl,rfl,rfl,rfl,rfl⟩
 rintro ⟨i,out⟩ ⟨T,S',tk',n'⟩ ⟨hl,hi,hp,e0,e1,e5,e18,e19,e20,eS⟩ IH
 simp only at hi hp e0 e1 e5 e18 e19 e20 eS
 subst eS
 obtain ⟨g,hg,hT⟩:=Bp hl
 rw [hg] at e0 e1 e5 e18 e19 e20
 subst hT
 clear hg hl
 have OUT:=IH
 clear IH
 have hlen:=hp.len
 by_cases hlt:i<(dig X).length
 ·have d2:decide ((i:Int)<((dig X).length:Int))=true:=by simpa using hlt
  obtain ⟨d,hd⟩:=A6 hlt
  have hd':=Jp hd
  have hdk:=He (Dy X) hd
  have hiw:=D7 (i:=i) (by omega)
  have hst:=Mul2.start (d:=d) hp
  simp (maxSteps:=1000000) +contextual (disch:=first|with_reducible assumption|exact ⟨rfl⟩|exact ⟨rfl,rfl⟩|exact ⟨rfl,rfl,rfl⟩|(refine _root_.id ?_; kernel_rfl)|omega) only [evs,Ad,nth,put,putT,getT,Ai,Aj,Ab,aUn,outA,resA,mapO,Aq,Ar,w1,w2,w3,bots,cond_true,cond_false,if_true,if_false,ite_true,ite_false,reduceIte,reduceCtorEq,implies_true,Nat.reduceAdd,Nat.reduceSub,AV.int,AV.bool,AV.str,Nat.reduceBEq,Nat.reduceEqDiff,Nat.reduceMul,Nat.reduceLT,Nat.reduceLeDiff,Int.reduceNeg,BEq.rfl,beq_self_eq_true,tabl,cellsOf,fldA,ldA,stA,Ak,Ao,Am,over,Ag,Value.oneCell',idxA,nilA,Aa,Ap,Ah,pure1,pure2,reps,chkA,tys,Tryz.results177,evt,Av,Au,digA,e0,e1,e5,e18,e19,e20,d2,hd']
  refine loop1 (P:=Tryz.prog) (fun x st=>st.T.length=67∧(x.1≤(dig Y).length)∧(Mul2 X Y i x.1 (val out+10000 ^ i*(d*Y)) d x.2.1 x.2.2)∧getT st.T 0=digA (dig X)∧getT st.T 1=digA (dig Y)∧getT st.T 5=.sref 0 0 0 ((dig X).length+(dig Y).length) 1∧getT st.T 6=.int (i:Nat)∧getT st.T 7=.int d∧getT st.T 8=.int x.2.1∧getT st.T 18=digA (dig X)∧getT st.T 19=.int (dig X).length∧getT st.T 20=.int (i:Nat)∧getT st.T 25=digA (dig Y)∧getT st.T 26=.int (dig Y).length∧getT st.T 27=.int (x.1:Nat)∧st.S=[⟨0,x.2.2.map numC⟩]) (fun x=>(dig Y).length - x.1) (fun x=>digA (dig (X*Y))) (0,0,out) ?_ ?_
  case refine_2=>exact ⟨rfl,Nat.zero_le _,hst,rfl,rfl,rfl,rfl,rfl,rfl,rfl,rfl,rfl,rfl,rfl,rfl,rfl⟩
  rintro ⟨m,c,o2⟩ ⟨T,S',tk',n'⟩ ⟨hl,hm,hq,e0,e1,e5,e6,e7,e8,e18,e19,e20,e25,e26,e27,eS⟩ IH
  simp only at hm hq e0 e1 e5 e6 e7 e8 e18 e19 e20 e25 e26 e27 eS
  subst eS
  obtain ⟨g,hg,hT⟩:=Bp hl
  rw [hg] at e0 e1 e5 e6 e7 e8 e18 e19 e20 e25 e26 e27
  subst hT
  clear hg hl
  have hlen2:=hq.len
  have hc0:=hq.c0
  have hmw:=D7 (i:=m) (by omega)
  obtain ⟨x,hx⟩:=A6 (show i+m<o2.length by omega)
  have hx':=Y3 hx
  have hin:i+m<(dig X).length+(dig Y).length:=by omega
  have him:IntKind.i64.wrap ((i:Int)+(m:Int))=((i+m:Nat):Int):=by rw [A0 (by unfold i64; omega)]; omega
  have hxk:=He hq.ok hx
  by_cases cm:m<(dig Y).length
  ·have d3:decide ((m:Int)<((dig Y).length:Int))=true:=by simpa using cm
   obtain ⟨y,hy⟩:=A6 cm
   have hy':=Jp hy
   have hyk:=He (Dy Y) hy
   obtain ⟨n,hn⟩:∃ n,n=c+x+d*y:=⟨_,rfl⟩
   obtain ⟨hq2,hn0,hn1,hn2⟩:=hq.step (n:=n) (by omega) hdk hx (by rw [hn,hy]; rfl)
   have hp0:0≤d*y:=Int.mul_nonneg hdk.1 hyk.1
   have hw1:IntKind.i64.wrap (d*y)=d*y:=A0 (by unfold i64; omega)
   have hw2:IntKind.i64.wrap (x+d*y)=x+d*y:=A0 (by unfold i64; omega)
   have hw3:IntKind.i64.wrap (x+d*y+c)=n:=by rw [hn,A0 (by unfold i64; omega)]; omega
   have hwq:IntKind.i64.wrap (n.tdiv 10000)=n.tdiv 10000:=by rw [hn2,A0 (by unfold i64; omega)]
   have hz':¬ ((10000:Int)=0):=by omega
   have hov:=Wr (v:=n.tmod 10000) hx
   simp (maxSteps:=1000000) +contextual (disch:=first|with_reducible assumption|exact ⟨rfl⟩|exact ⟨rfl,rfl⟩|exact ⟨rfl,rfl,rfl⟩|(refine _root_.id ?_; kernel_rfl)|omega) only [evs,Ad,nth,put,putT,getT,Ai,Aj,Ab,aUn,outA,resA,mapO,Aq,Ar,w1,w2,w3,bots,cond_true,cond_false,if_true,if_false,ite_true,ite_false,reduceIte,reduceCtorEq,implies_true,Nat.reduceAdd,Nat.reduceSub,AV.int,AV.bool,AV.str,Nat.reduceBEq,Nat.reduceEqDiff,Nat.reduceMul,Nat.reduceLT,Nat.reduceLeDiff,Int.reduceNeg,BEq.rfl,beq_self_eq_true,tabl,cellsOf,fldA,ldA,stA,Ak,Ao,Am,over,Ag,Value.oneCell',idxA,nilA,Aa,Ap,Ah,pure1,pure2,reps,chkA,tys,Tryz.results177,evt,Av,Au,digA,e0,e1,e5,e6,e7,e8,e18,e19,e20,e25,e26,e27,d3,hy',hmw,him,hin,hx',hw1,hw2,hw3,hwq,hz',hov,Nat.mul_one]
   exact IH (m+1,n.tdiv 10000,o2.set (i+m) (n.tmod 10000)) _ (by first|omega|(simp only; omega)) ⟨rfl,by first|omega|(dsimp only; omega),hq2,(by first|rfl|simp only [getT,List.map_append,List.map_cons,List.map_nil,digC,digA]),(by first|rfl|simp only [getT,List.map_append,List.map_cons,List.map_nil,digC,digA]),(by first|rfl|simp only [getT,List.map_append,List.map_cons,List.map_nil,digC,digA]),(by first|rfl|simp only [getT,List.map_append,List.map_cons,List.map_nil,digC,digA]),(by first|rfl|simp only [getT,List.map_append,List.map_cons,List.map_nil,digC,digA]),(by first|rfl|simp only [getT,List.map_append,List.map_cons,List.map_nil,digC,digA]),(by first|rfl|simp only [getT,List.map_append,List.map_cons,List.map_nil,digC,digA]),(by first|rfl|simp only [getT,List.map_append,List.map_cons,List.map_nil,digC,digA]),(by first|rfl|simp only [getT,List.map_append,List.map_cons,List.map_nil,digC,digA]),(by first|rfl|simp only [getT,List.map_append,List.map_cons,List.map_nil,digC,digA]),(by first|rfl|simp only [getT,List.map_append,List.map_cons,List.map_nil,digC,digA]),(by first|rfl|simp only [getT,List.map_append,List.map_cons,List.map_nil,digC,digA]),(by first|rfl|simp only [getT,List.map_append,List.map_cons,List.map_nil,digC,digA])⟩
  ·have d3:decide ((m:Int)<((dig Y).length:Int))=false:=by simpa using cm
   have hme:m=(dig Y).length:=by omega
   subst hme
   obtain ⟨-,hnx⟩:=hq.next hp hd hx
   have hw4:IntKind.i64.wrap (x+c)=x+c:=A0 (by unfold i64; omega)
   have hov:=Wr (v:=x+c) hx
   simp (maxSteps:=1000000) +contextual (disch:=first|with_reducible assumption|exact ⟨rfl⟩|exact ⟨rfl,rfl⟩|exact ⟨rfl,rfl,rfl⟩|(refine _root_.id ?_; kernel_rfl)|omega) only [evs,Ad,nth,put,putT,getT,Ai,Aj,Ab,aUn,outA,resA,mapO,Aq,Ar,w1,w2,w3,bots,cond_true,cond_false,if_true,if_false,ite_true,ite_false,reduceIte,reduceCtorEq,implies_true,Nat.reduceAdd,Nat.reduceSub,AV.int,AV.bool,AV.str,Nat.reduceBEq,Nat.reduceEqDiff,Nat.reduceMul,Nat.reduceLT,Nat.reduceLeDiff,Int.reduceNeg,BEq.rfl,beq_self_eq_true,tabl,cellsOf,fldA,ldA,stA,Ak,Ao,Am,over,Ag,Value.oneCell',idxA,nilA,Aa,Ap,Ah,pure1,pure2,reps,chkA,tys,Tryz.results177,evt,Av,Au,digA,e0,e1,e5,e6,e7,e8,e18,e19,e20,e25,e26,e27,d3,hiw,him,hin,hx',hw4,hov,Nat.mul_one]
   exact OUT (i+1,o2.set (i+(dig Y).length) (x+c)) _ (by first|omega|(simp only; omega)) ⟨rfl,by first|omega|(dsimp only; omega),hnx,(by first|rfl|simp only [getT,List.map_append,List.map_cons,List.map_nil,digC,digA]),(by first|rfl|simp only [getT,List.map_append,List.map_cons,List.map_nil,digC,digA]),(by first|rfl|simp only [getT,List.map_append,List.map_cons,List.map_nil,digC,digA]),(by first|rfl|simp only [getT,List.map_append,List.map_cons,List.map_nil,digC,digA]),(by first|rfl|simp only [getT,List.map_append,List.map_cons,List.map_nil,digC,digA]),(by first|rfl|simp only [getT,List.map_append,List.map_cons,List.map_nil,digC,digA]),(by first|rfl|simp only [getT,List.map_append,List.map_cons,List.map_nil,digC,digA])⟩
 ·have d2:decide ((i:Int)<((dig X).length:Int))=false:=by simpa using hlt
  have he:i=(dig X).length:=by omega
  subst he
  have hdone:=hp.done
  have hT:=Tt [⟨0,out.map numC⟩] tk' n' out 0 0 (by omega) rfl
  rw [hlen] at hT
  rw [hdone] at hT
  simp (maxSteps:=1000000) +contextual (disch:=first|with_reducible assumption|exact ⟨rfl⟩|exact ⟨rfl,rfl⟩|exact ⟨rfl,rfl,rfl⟩|(refine _root_.id ?_; kernel_rfl)|omega) only [evs,Ad,nth,put,putT,getT,Ai,Aj,Ab,aUn,outA,resA,mapO,Aq,Ar,w1,w2,w3,bots,cond_true,cond_false,if_true,if_false,ite_true,ite_false,reduceIte,reduceCtorEq,implies_true,Nat.reduceAdd,Nat.reduceSub,AV.int,AV.bool,AV.str,Nat.reduceBEq,Nat.reduceEqDiff,Nat.reduceMul,Nat.reduceLT,Nat.reduceLeDiff,Int.reduceNeg,BEq.rfl,beq_self_eq_true,tabl,cellsOf,fldA,ldA,stA,Ak,Ao,Am,over,Ag,Value.oneCell',idxA,nilA,Aa,Ap,Ah,pure1,pure2,reps,chkA,tys,Tryz.results177,evt,Av,Au,digA,e0,e1,e5,e18,e19,e20,d2,hT]
  have hrw:Mj (Ht 1 (dig (X*Y)).length (out.map numC))=.frz ((dig (X*Y)).map digC) .unk:=by
   rw [← hdone,Xx (Mv out),Ya,← Ho]
  rw [hrw]
end
end Go.Proofs.YtcjffhadclngmaaGreat
