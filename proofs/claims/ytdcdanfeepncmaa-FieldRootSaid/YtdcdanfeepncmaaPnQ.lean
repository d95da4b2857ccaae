/- 2^255 - 19 is a prime number. -/
import Derived.Test.YtdcdanfeepncmaaPnP
namespace Go.Pn
set_option maxRecDepth 100000
theorem pr991 : Pr 991 := small_pr (by decide) (by kernel_rfl)
theorem pr103 : Pr 103 := small_pr (by decide) (by kernel_rfl)
theorem pr127 : Pr 127 := small_pr (by decide) (by kernel_rfl)
theorem pr569003 : Pr 569003 := small_pr (by decide) (by kernel_rfl)
theorem pr430751 : Pr 430751 := small_pr (by decide) (by kernel_rfl)
theorem pr4153 : Pr 4153 := small_pr (by decide) (by kernel_rfl)
theorem pr8574133 : Pr 8574133 := pock2 8574133 2 991 103 8652 83244 (by decide) pr991 pr103 (by decide) (by decide) (by decide) (by decide) (by decide) (by kernel_rfl) (by kernel_rfl) (by kernel_rfl)
theorem pr1919519569386763 : Pr 1919519569386763 := pock2 1919519569386763 2 8574133 127 223873314 15114327318006 (by decide) pr8574133 pr127 (by decide) (by decide) (by decide) (by decide) (by decide) (by kernel_rfl) (by kernel_rfl) (by kernel_rfl)
theorem pr2773320623 : Pr 2773320623 := pockOne 2773320623 2 569003 4874 (by decide) pr569003 (by decide) (by decide) (by decide) (by kernel_rfl) (by kernel_rfl)
theorem pr72106336199 : Pr 72106336199 := pockOne 72106336199 2 2773320623 26 (by decide) pr2773320623 (by decide) (by decide) (by decide) (by kernel_rfl) (by kernel_rfl)
theorem pr754457024797 : Pr 75445702479781427272750846543864801 := pock2 75445702479781427272750846543864801 2 1919519569386763 72106336199 39304471641247389600 1046311689884858398375200 (by decide) pr1919519569386763 pr72106336199 (by decide) (by decide) (by decide) (by decide) (by decide) (by kernel_rfl) (by kernel_rfl) (by kernel_rfl)
theorem pr31757755568855353 : Pr 31757755568855353 := pock2 31757755568855353 2 430751 4153 73726481352 7646943310584 (by decide) pr430751 pr4153 (by decide) (by decide) (by decide) (by decide) (by decide) (by kernel_rfl) (by kernel_rfl) (by kernel_rfl)
theorem pr740582127325 : Pr 74058212732561358302231226437062788676166966415465897661863160754340907 := pock2 74058212732561358302231226437062788676166966415465897661863160754340907 2 75445702479781427272750846543864801 31757755568855353 981609426360740691344999861639072106 2331972502653487852620185443007392165117953542933313402 (by decide) pr754457024797 pr31757755568855353 (by decide) (by decide) (by decide) (by decide) (by decide) (by kernel_rfl) (by kernel_rfl) (by kernel_rfl)
theorem pr578960446186 : Pr 57896044618658097711785492504343953926634992332820282019728792003956564819949 := pockOne 57896044618658097711785492504343953926634992332820282019728792003956564819949 2 74058212732561358302231226437062788676166966415465897661863160754340907 781764 (by decide) pr740582127325 (by decide) (by decide) (by decide) (by kernel_rfl) (by kernel_rfl)
end Go.Pn
